/-
  All, as an iterator.
-/
import Derived.Test.YtodnojpolkdlmaaNow
import Derived.Test.YtodnojpolkdlmaaSeeA
import Derived.Test.YtodnojpolkdlmaaRgf
import Derived.RangeFuncBound
import Derived.RangeFuncCalls
import Derived.Shelf.Abstract
import Derived.Shelf.RegionOpen
import Derived.OwnWalkIn
import Derived.TacticsInMore
import Derived.LoopNIn
import Derived.LoopIn
namespace Go.Proofs.Ytodnojpolkdlmaa
set_option linter.unusedSimpArgs false
set_option linter.unusedVariables false
open Go.RowKit Go.IntWalk Go.Shelf
attribute [local go_sem] Oper.semAt_some

/-- an entry as a value -/
def encE (e : E) : Array Value := #[.agg #[.string e.k.u, .int .u64 e.k.s, .int .i64 e.k.k, .string e.v]]
theorem Turn.keep {D R R' : Nat → Prop} {w w' : World} (h : Turn D R R' w w') {base : Nat} {e : TypeId} {size : Nat} {v : Value} {n : Nat} {cs : List Value} (ho : Own w base e size v n cs) (hb : ∀ b, v.ownBlock = some b → ¬ R b) : Own w' base e size v n cs :=
  ho.of_block fun k hk => h.ch.block k (ho.lt k hk).2 fun hr => hb k hk hr.1
theorem Turn.not {D R R' : Nat → Prop} {w w' : World} (h : Turn D R R' w w') {k : Nat} (hk : k < w.heap.size) (hn : ¬ R k) : ¬ R' k := fun hr => by
  rcases h.dn k hr with h1 | h1
  · exact hn h1
  · omega
theorem Turn.lt {D R R' : Nat → Prop} {w w' : World} (h : Turn D R R' w w') (hR : ∀ k, R k → k < w.heap.size) : ∀ k, R' k → k < w'.heap.size := fun k hk => by
  have := h.ch.size
  rcases h.dn k hk with h1 | h1
  · have := hR k h1; omega
  · exact h1.2
/-- where an iterator over a slice of its own stands -/
structure Own1 (J : Inv E) (base : Nat) (L : List E) (v : Value) (k : Nat) (wr : World) : Prop where
  own : Own wr base 47 4 v L.length (entsC L)
  j : ∃ R, J R (L.take k) wr ∧ (∀ j, R j → j < wr.heap.size) ∧ ∀ b, v.ownBlock = some b → ¬ R b
theorem Own1.alloc {J : Inv E} {base : Nat} {L : List E} {v : Value} {k : Nat} {wr : World} (h : Own1 J base L v k wr) (hJ : Abide J) (cs : Array Value) (t : TypeId) : Own1 J base L v k (wr.alloc (.cells cs t)) := by
  obtain ⟨R, h1, h2, h3⟩ := h.j
  exact ⟨h.own.alloc _, R, hJ.keep h1 (Ch.below ((Below.refl _ _).alloc (Nat.le_refl _) _)), fun j hj => by have := h2 j hj; simp; omega, h3⟩
set_option maxHeartbeats 4000000 in
set_option maxRecDepth 100000 in
theorem all1_seq (n : Nat) (hn : 1 ≤ n) {W : World} {g : Nat} {how : Int} {hl : List UInt8} {S : TS} {F H : List Nat} (ht : Tab W g how hl S F H) (hsn : S.n ≤ 1000000) (bt bk : Nat) (f : K)
    (hbt : W.cell? ⟨bt, 0, none⟩ = some (.pointer (some ⟨g, 0, none⟩))) (hbk : W.cell? ⟨bk, 0, none⟩ = some (.string f.u) ∧ W.cell? ⟨bk, 1, none⟩ = some (.int .u64 f.s) ∧ W.cell? ⟨bk, 2, none⟩ = some (.int .i64 f.k)) :
    SeqX Fence.wide n Try.prog 30 #[.pointer (some ⟨bt, 0, none⟩), .pointer (some ⟨bk, 0, none⟩)] encE (fun _ => False) (fun xs => xs = S.l.filter (holdsA how f)) (fun pre => ∃ k, k ≤ (S.l.filter (holdsA how f)).length ∧ pre = (S.l.filter (holdsA how f)).take k) (S.l.filter (holdsA how f)).length W := by
  intro l J Jx hJ hJx hY h0
  have hNow := mNow_all ht hsn bt bk f hbt hbk
  have hLl : (S.l.filter (holdsA how f)).length ≤ 1000000 := Nat.le_trans (List.length_filter_le _ _) (by have : S.n = S.l.length + S.t.length := rfl; omega)
  generalize S.l.filter (holdsA how f) = L at *
  have HNOW := Lib.hid hNow
  clear hNow ht hbk
  refine callsIn_of_wp Try.func30 rfl trivial ?_ rfl
  simp only [Try.ntmps30, List.size_toArray, List.length_cons, List.length_nil, Nat.reduceAdd, Nat.reduceSub, Array.replicate_succ, Array.replicate_zero, List.push_toArray, List.append_toArray, List.nil_append, List.cons_append]
  gi_wp2_with (refine ⟨trivial, ?_⟩; gi_at_call 31; refine (callsIn_wide.2 HNOW.out).mono ?_; rintro e w1 ⟨v, rfl, hb1, ho1⟩; obtain ⟨A, c, rfl, hc1, hc2⟩ := ho1.slice_)
  have hO1 : Own1 J W.heap.size L (.slice A L.length c) 0 w1 := ⟨ho1, _, hJ.keep h0 (Ch.below hb1), fun j hj => Nat.lt_of_lt_of_le hj hb1.size, fun b hb hr => by have := (ho1.lt b hb).1; omega⟩
  have HO1 := Lib.hid hO1
  clear hO1 ho1 h0 hbt hb1 HNOW
  gi_loopw [10] (fun s10 wr => ∃ k : Nat, k ≤ L.length ∧ s10 = .int .i64 k ∧ Hid (Own1 J W.heap.size L (.slice A L.length c) k wr)) (fun s10 _ => L.length - (intOf s10).toNat)
  case atStart => exact ⟨0, Nat.zero_le _, rfl, HO1.out⟩
  case round =>
    clear HO1
    obtain ⟨k, hk, rfl, HO⟩ := hrel
    by_cases hkl : k < L.length
    · obtain ⟨b, off, rfl, hbl, t0, t1, t2, t3⟩ := ent_at HO.out.own.rd' hkl
      have hki : (0 : Int) ≤ (k : Int) ∧ (k : Int) < (L.length : Int) := by omega
      have htk := take_snoc L k hkl
      obtain ⟨own2, R, hj2, hR2, hb2⟩ := HO.out.alloc hJ #[.string L[k].k.u, .int .u64 L[k].k.s, .int .i64 L[k].k.k, .string L[k].v] 47
      have hY1 := hY R (L.take k) L[k] _ hj2 (by rw [List.length_take]; omega) ⟨k + 1, by omega, htk.symm⟩
      rw [← htk] at hY1
      generalize hee : L[k] = ee at *
      clear hee htk
      obtain ⟨⟨u, s, q⟩, v⟩ := ee
      unfold encE at hY1
      dsimp only at t0 t1 t2 t3 hY1 own2 hj2 hR2
      obtain ⟨fn, tmps, assign, body, hy, hR⟩ := hY1
      have hx := Blk.new wr 47 #[.string u, .int .u64 s, .int .i64 q, .string v]
      have x0 : (wr.alloc (.cells #[.string u, .int .u64 s, .int .i64 q, .string v] 47)).cell? ⟨wr.heap.size, 0, none⟩ = some (.string u) := hx.cell 0
      have x1 : (wr.alloc (.cells #[.string u, .int .u64 s, .int .i64 q, .string v] 47)).cell? ⟨wr.heap.size, 1, none⟩ = some (.int .u64 s) := hx.cell 1
      have x2 : (wr.alloc (.cells #[.string u, .int .u64 s, .int .i64 q, .string v] 47)).cell? ⟨wr.heap.size, 2, none⟩ = some (.int .i64 q) := hx.cell 2
      have x3 : (wr.alloc (.cells #[.string u, .int .u64 s, .int .i64 q, .string v] 47)).cell? ⟨wr.heap.size, 3, none⟩ = some (.string v) := hx.cell 3
      have OW := Lib.hid own2
      have HR2 := Lib.hid hR2
      have HB2 := Lib.hid hb2
      have HRR := Lib.hid hR
      clear own2 hR2 hb2 hj2 hx hR
      gi_wp2
      refine HRR.out.mono ?_
      rintro e W3 (⟨rfl, R', hj3, ht3⟩ | ⟨rfl, R', hj3, ht3⟩)
      · have h31 : Own1 J W.heap.size L (.slice (some ⟨b, off, none⟩) L.length c) (k + 1) W3 := ⟨ht3.keep OW.out HB2.out, R', hj3, ht3.lt HR2.out, fun j hj => ht3.not (OW.out.lt j hj).2 (HB2.out j hj)⟩
        have H31 := Lib.hid h31
        clear h31 hj3 ht3
        gi_wp2
        go_roundw
        case rel => exact ⟨k + 1, by omega, by go_num, H31.out⟩
        case measure => simp [intOf]; omega
      · gi_wp2
        refine bodyPost_ret (results_none rfl _ _ _) rfl ?_
        exact ⟨⟨_, rfl⟩, .inr ⟨_, R', ⟨k + 1, by omega, rfl⟩, hj3⟩⟩
    · obtain rfl : k = L.length := by omega
      obtain ⟨R, hj, -, -⟩ := HO.out.j
      rw [List.take_length] at hj
      gi_wp2
      go_end0
      exact ⟨⟨_, rfl⟩, .inl ⟨_, R, rfl, hj⟩⟩
end Go.Proofs.Ytodnojpolkdlmaa
