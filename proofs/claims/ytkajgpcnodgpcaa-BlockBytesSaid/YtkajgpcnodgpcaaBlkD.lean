/-
  The document's Size.
-/
import Derived.Test.YtkajgpcnodgpcaaBlkC
namespace Go.Proofs.Ytkajgpcnodgpcaa
set_option linter.unusedSimpArgs false
set_option linter.unusedVariables false
open Go.RowKit Go.IntWalk

def sizeR (R : Int) (l : List E) : Nat × Int :=
  if R < 1 ∨ 1024 < R then (0, 1) else if 65536 < l.length then (0, 2) else if chkS l ≠ 0 then (0, chkS l) else ((endL (wst R.toNat l)).length, 0)
theorem chkS_all : ∀ l : List E, chkS l = 0 → ∀ e ∈ l, chkE e = 0
  | [], _ => fun e h => by cases h
  | e :: l, h => by
    unfold chkS at h
    split at h
    · rename_i h1
      intro x hx
      rcases List.mem_cons.1 hx with rfl | hx
      · exact h1
      · exact chkS_all l h x hx
    · rename_i h1; exact absurd h h1
theorem chkS_drop (l : List E) (k : Nat) (h : k < l.length) : chkS (l.drop k) = if chkE l[k] = 0 then chkS (l.drop (k + 1)) else chkE l[k] := by
  rw [← List.getElem_cons_drop h]; rfl
set_option maxHeartbeats 2000000 in
set_option maxRecDepth 100000 in
theorem rSize_any (R : Int) (l : List E) (A : Option Addr) (cap : Nat) (w : World) (hll : l.length ≤ 140737488351240) (hs : ∀ e ∈ l, 0 ≤ e.k.s)
    (hr : Rd w w.heap.size A (entsC l)) :
    Calls Try.prog 10 #[.int .i64 R, .slice A l.length cap] w fun e w' => e = .returned (.tuple #[.int .i64 ((sizeR R l).1 : Nat), .int .i64 (sizeR R l).2]) ∧ Below w.heap.size w w' := by
  by_cases h1 : R < 1
  · have q1 : decide (R < 1) = true := by simpa using h1
    have hz : sizeR R l = (0, 1) := by unfold sizeR; rw [if_pos (.inl h1)]
    rw [hz]
    go_enter Try.func10, Try.ntmps10
    go_wp2
    go_ret2
    exact ⟨rfl, Below.refl _ _⟩
  by_cases h2 : 1024 < R
  · have q1 : decide (R < 1) = false := by simpa using h1
    have q2 : decide (1024 < R) = true := by simpa using h2
    have hz : sizeR R l = (0, 1) := by unfold sizeR; rw [if_pos (.inr h2)]
    rw [hz]
    go_enter Try.func10, Try.ntmps10
    go_wp2
    go_ret2
    exact ⟨rfl, Below.refl _ _⟩
  have q1 : decide (R < 1) = false := by simpa using h1
  have q2 : decide (1024 < R) = false := by simp; omega
  by_cases h3 : 65536 < l.length
  · have q3 : decide ((65536 : Int) < (l.length : Int)) = true := by simp; omega
    have hz : sizeR R l = (0, 2) := by unfold sizeR; rw [if_neg (by omega), if_pos h3]
    rw [hz]
    go_enter Try.func10, Try.ntmps10
    go_wp2
    go_ret2
    exact ⟨rfl, Below.refl _ _⟩
  have q3 : decide ((65536 : Int) < (l.length : Int)) = false := by simp; omega
  have hz : sizeR R l = if chkS l ≠ 0 then (0, chkS l) else ((endL (wst R.toNat l)).length, 0) := by unfold sizeR; rw [if_neg (by omega), if_neg h3]
  obtain ⟨R', hR'⟩ : ∃ R' : Nat, R = (R' : Int) := ⟨R.toNat, by omega⟩
  subst hR'
  rw [show ((R' : Int)).toNat = R' from rfl] at hz
  obtain ⟨rz, hrz⟩ : ∃ rz, sizeR (R' : Int) l = rz := ⟨_, rfl⟩
  rw [hrz]
  rw [hrz] at hz
  have HZ := Lib.hid hz; clear hz hrz
  have hW := fun (hok : ∀ e ∈ l, chkE e = 0) w hh => rwritten_any R' l A cap w (by omega) (by omega) (by omega) hok hs hh
  have HW := Lib.hid hW; clear hW
  go_enter Try.func10, Try.ntmps10
  go_wp2_with fail
  go_loopw [6, 7] (fun s6 _ wr => ∃ k : Nat, k ≤ l.length ∧ s6 = .int .i64 k ∧ Hid (Below w.heap.size w wr) ∧ Hid (chkS l = chkS (l.drop k))) (fun s6 _ _ => l.length - (intOf s6).toNat)
  case atStart => exact ⟨0, Nat.zero_le _, rfl, Below.refl _ _, rfl⟩
  case round =>
    obtain ⟨k, hk, rfl, HB, HC⟩ := hrel
    by_cases hlt : k < l.length
    · obtain ⟨ab, ao, rfl, hab, t0, t1, t2, t3⟩ := ent_at hr hlt
      have hcd := chkS_drop l k hlt
      have HCD := Lib.hid hcd; clear hcd
      generalize l[k] = ee at *
      obtain ⟨⟨u, s, q⟩, v⟩ := ee
      dsimp only at t0 t1 t2 t3
      have d0 := (HB.out.cell (p := ⟨ab, ao + k * 4, none⟩) hab).trans t0
      have d1 := (HB.out.cell (p := ⟨ab, ao + k * 4 + 1, none⟩) hab).trans t1
      have d2 := (HB.out.cell (p := ⟨ab, ao + k * 4 + 2, none⟩) hab).trans t2
      have T3 := Lib.hid t3
      clear t0 t1 t2 t3
      have hcE : chkE ⟨⟨u, s, q⟩, v⟩ = if chkK ⟨u, s, q⟩ = 0 then (if 16384 < v.size then 2 else 0) else chkK ⟨u, s, q⟩ := rfl
      have hC := fun w => rCheck_any u s q w
      generalize chkE ⟨⟨u, s, q⟩, v⟩ = ce at *
      generalize chkK ⟨u, s, q⟩ = ck at *
      have HCE := Lib.hid hcE; clear hcE
      have HCK := Lib.hid hC; clear hC
      go_wp2_with fail
      refine (HCK.out _).mono ?_
      rintro e w1 ⟨rfl, hb1⟩
      have HB1 := Lib.hid (HB.out.trans (hb1.mono HB.out.size))
      have d3 := (HB1.out.cell (p := ⟨ab, ao + k * 4 + 3, none⟩) hab).trans T3.out
      clear hb1
      by_cases hck : ck = 0
      · subst hck
        have hce := HCE.out
        rw [if_pos rfl] at hce
        go_wp2_with fail
        refine (rvalue_any v _).mono ?_
        rw [← hce]
        rintro e w2 ⟨rfl, rfl⟩
        clear hce
        by_cases hc0 : ce = 0
        · subst hc0
          go_wp2_with fail
          go_roundw
          case rel => exact ⟨k + 1, by omega, by go_num, HB1.out, by rw [HC.out, HCD.out]; simp [Hid]⟩
          case measure => simp [intOf]; omega
        · have hcb : (ce != 0) = true := by simpa using hc0
          go_wp2
          go_ret2
          have hq : rz = (0, ce) := by rw [HZ.out, HC.out, HCD.out, if_neg hc0, if_pos hc0]
          subst hq
          exact ⟨rfl, HB1.out⟩
      · have hcb : (ck == 0) = false := by simpa using hck
        have hcb2 : (ck != 0) = true := by simpa using hck
        go_wp2
        go_ret2
        have hce := HCE.out
        rw [if_neg hck] at hce
        subst hce
        have hq : rz = (0, ce) := by rw [HZ.out, HC.out, HCD.out, if_neg hck, if_pos hck]
        subst hq
        exact ⟨rfl, HB1.out⟩
    · obtain rfl : k = l.length := by omega
      have hc0 : chkS l = 0 := by rw [HC.out, List.drop_length]; rfl
      have hq : rz = ((endL (wst R' l)).length, 0) := by rw [HZ.out, hc0]; rfl
      have HQ := Lib.hid hq; clear hq
      have hws := HW.out (chkS_all l hc0) _ (hr.keep HB.out |>.more HB.out.size)
      have HWS := Lib.hid hws; clear hws
      clear hc0
      go_wp2_with fail
      refine HWS.out.mono ?_
      rintro e w1 ⟨v, rfl, hb1, hv⟩
      obtain ⟨vA, vc, rfl, -⟩ := hv.rd
      have HB1 := Lib.hid (HB.out.trans (hb1.mono HB.out.size))
      clear hb1 hv
      go_wp2_with fail
      go_ret2
      rw [HQ.out]
      exact ⟨rfl, HB1.out⟩
end Go.Proofs.Ytkajgpcnodgpcaa
