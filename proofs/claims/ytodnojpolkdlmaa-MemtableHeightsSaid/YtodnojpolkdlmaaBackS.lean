/-
  slices.Backward over entries, as an iterator.
-/
import Derived.Test.YtodnojpolkdlmaaAllS
namespace Go.Proofs.Ytodnojpolkdlmaa
set_option linter.unusedSimpArgs false
set_option linter.unusedVariables false
open Go.RowKit Go.IntWalk Go.Shelf
attribute [local go_sem] Oper.semAt_some

def encBE (x : Int × E) : Array Value := #[.int .i64 x.1, .agg #[.string x.2.k.u, .int .u64 x.2.k.s, .int .i64 x.2.k.k, .string x.2.v]]
/-- what has come when a list was gone through backward, k rounds long -/
def backsE (L : List E) (k : Nat) : List (Int × E) := (L.reverse.take k).zipIdx.map fun p => ((L.length : Int) - 1 - (p.2 : Nat), p.1)
theorem backsE_snd (L : List E) (k : Nat) : (backsE L k).map (·.2) = L.reverse.take k := by
  unfold backsE
  rw [List.map_map]
  have : ((fun x : Int × E => x.2) ∘ fun p : E × Nat => ((L.length : Int) - 1 - (p.2 : Nat), p.1)) = Prod.fst := by funext p; rfl
  rw [this, List.zipIdx_map_fst]
theorem backsE_len (L : List E) (k : Nat) (h : k ≤ L.length) : (backsE L k).length = k := by unfold backsE; simp; omega
theorem backsE_succ (L : List E) (k : Nat) (h : k < L.length) : backsE L (k + 1) = backsE L k ++ [((L.length : Int) - 1 - (k : Nat), L[L.length - 1 - k])] := by
  unfold backsE
  rw [take_snoc L.reverse k (by simpa using h), List.zipIdx_append, List.map_append]
  congr 1
  simp only [List.zipIdx_cons, List.zipIdx_nil, List.map_cons, List.map_nil, List.length_take, List.length_reverse, List.getElem_reverse]
  rw [Nat.min_eq_left (Nat.le_of_lt h)]
  simp
def dataB (Bx : Nat) (A : Option Addr) (k : Nat) : Prop := k = Bx ∨ ∃ a, A = some a ∧ k = a.block
set_option maxHeartbeats 4000000 in
set_option maxRecDepth 100000 in
theorem backE1_seq (n : Nat) (hn : 1 ≤ n) {W : World} (Bx : Nat) (A : Option Addr) (cap : Nat) (L : List E) (hl : L.length ≤ 1000000000) (hBx : W.cell? ⟨Bx, 0, none⟩ = some (.slice A L.length cap)) (hr : Rd W W.heap.size A (entsC L)) :
    SeqX Fence.wide n Try.prog 53 #[.pointer (some ⟨Bx, 0, none⟩)] encBE (dataB Bx A) (fun xs => xs = backsE L L.length) (fun pre => ∃ k, k ≤ L.length ∧ pre = backsE L k) L.length W := by
  intro l J Jx hJ hJx hY h0
  have HBX := Lib.hid hBx
  have HR := Lib.hid hr
  have hBl := World.block_lt_of_cell? _ _ hBx
  clear hr
  refine callsIn_of_wp Try.func53 rfl trivial ?_ rfl
  simp only [Try.ntmps53, List.size_toArray, List.length_cons, List.length_nil, Nat.reduceAdd, Nat.reduceSub, Array.replicate_succ, Array.replicate_zero, List.push_toArray, List.append_toArray, List.nil_append, List.cons_append]
  gi_wp2
  clear hBx
  gi_loopw [3] (fun s3 wr => ∃ k : Nat, k ≤ L.length ∧ s3 = .int .i64 ((L.length : Int) - 1 - k) ∧ Hid (∀ j, dataB Bx A j → j < W.heap.size → wr.heap[j]? = W.heap[j]?) ∧ Hid (∃ R, J R (backsE L k) wr ∧ W.heap.size ≤ wr.heap.size)) (fun s3 _ => (intOf s3 + 1).toNat)
  case atStart => exact ⟨0, Nat.zero_le _, by simp, fun _ _ _ => rfl, _, h0, Nat.le_refl _⟩
  case round =>
    clear h0
    obtain ⟨k, hk, rfl, HK, HJ⟩ := hrel
    by_cases hlt : k < L.length
    · obtain ⟨m, hm⟩ : ∃ m, m = L.length - 1 - k := ⟨_, rfl⟩
      have hml : m < L.length := by omega
      have hmi : (L.length : Int) - 1 - k = m := by omega
      have hst := backsE_succ L k hlt
      obtain ⟨b, off, rfl, hbl, t0, t1, t2, t3⟩ := ent_at HR.out hml
      have hkb : wr.heap[b]? = W.heap[b]? := HK.out b (.inr ⟨_, rfl, rfl⟩) hbl
      have u0 := (World.cell?_of_block (a := ⟨b, off + m * 4, none⟩) hkb).trans t0
      have u1 := (World.cell?_of_block (a := ⟨b, off + m * 4 + 1, none⟩) hkb).trans t1
      have u2 := (World.cell?_of_block (a := ⟨b, off + m * 4 + 2, none⟩) hkb).trans t2
      have u3 := (World.cell?_of_block (a := ⟨b, off + m * 4 + 3, none⟩) hkb).trans t3
      have hcx := (World.cell?_of_block (a := ⟨Bx, 0, none⟩) (HK.out Bx (.inl rfl) hBl)).trans HBX.out
      obtain ⟨R, hj, hz⟩ := HJ.out
      have hst2 : backsE L k ++ [((m : Int), L[m])] = backsE L (k + 1) := by
        rw [hst, hmi]
        congr 3
        simp only [hm]
      have hY1 := hY R (backsE L k) ((m : Int), L[m]) wr hj (by rw [backsE_len L k hk]; exact hlt) ⟨k + 1, by omega, hst2⟩
      rw [hst2] at hY1
      clear hst hst2
      generalize L[m] = ee at *
      obtain ⟨⟨u, s, q⟩, v⟩ := ee
      unfold encBE at hY1
      dsimp only at u0 u1 u2 u3 hY1
      obtain ⟨fn, tmps, assign, body, hy, hR⟩ := hY1
      have HRR := Lib.hid hR
      have HM := Lib.hid hm
      have HZ := Lib.hid hz
      have hmii : (0 : Int) ≤ (m : Int) ∧ (m : Int) < (L.length : Int) := by omega
      clear hR hkb t0 t1 t2 t3 HJ hj hm
      rw [hmi]
      have HMI := Lib.hid hmi
      clear hmi
      gi_wp2
      refine HRR.out.mono ?_
      rintro e W3 (⟨rfl, R', hj3, ht3⟩ | ⟨rfl, R', hj3, ht3⟩)
      · have HK3 : Hid (∀ j, dataB Bx (some ⟨b, off, none⟩) j → j < W.heap.size → W3.heap[j]? = W.heap[j]?) := fun j hj hjl => (ht3.ch.block j (by have := HZ.out; omega) fun hr => hr.2 hj).trans (HK.out j hj hjl)
        have HJ3 : Hid (∃ R, J R (backsE L (k + 1)) W3 ∧ W.heap.size ≤ W3.heap.size) := ⟨R', hj3, Nat.le_trans HZ.out ht3.ch.size⟩
        clear hj3 ht3
        gi_wp2
        go_roundw
        case rel => exact ⟨k + 1, by omega, by rw [← HMI.out]; congr 1; omega, HK3.out, HJ3.out⟩
        case measure => simp [intOf]
      · gi_wp2
        refine bodyPost_ret (results_none rfl _ _ _) rfl ?_
        exact ⟨⟨_, rfl⟩, .inr ⟨_, R', ⟨k + 1, by omega, rfl⟩, hj3⟩⟩
    · obtain rfl : k = L.length := by omega
      obtain ⟨R, hj, -⟩ := HJ.out
      gi_wp2
      go_end0
      exact ⟨⟨_, rfl⟩, .inl ⟨_, R, rfl, hj⟩⟩
theorem backE_any (A : Option Addr) (len cap : Nat) (w : World) : Calls Try.prog 35 #[.slice A len cap] w fun e w' => e = .returned (.func (.func 53) #[] #[.pointer (some ⟨w.heap.size, 0, none⟩)]) ∧ w' = w.alloc (.cells #[.slice A len cap] 40) := by
  go_enter Try.func35, Try.ntmps35
  go_wp2
  go_ret
  exact ⟨rfl, rfl⟩
end Go.Proofs.Ytodnojpolkdlmaa
