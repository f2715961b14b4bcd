/-
  The program's shape of an entry.
-/
import Derived.Test.YtkajgpcnodgpcaaBlkE
namespace Go.Proofs.Ytkajgpcnodgpcaa
set_option linter.unusedSimpArgs false
set_option linter.unusedVariables false
open Go.RowKit Go.IntWalk

set_option maxHeartbeats 1000000 in
theorem bShape_any (a : E) (w : World) (h0 : 0 ≤ a.k.s) :
    Calls Try.prog 26 #[.agg (entC a).toArray] w fun e w' => ∃ v, e = .returned (.tuple #[v, .int .i64 (chkE a)]) ∧ Below w.heap.size w w' ∧ (chkE a = 0 → Own w' w.heap.size 5 1 v (encL a.k).length ((encL a.k).map byteV)) := by
  obtain ⟨⟨u, s, q⟩, v⟩ := a
  have hE := fun w => cEncode_any ⟨u, s, q⟩ w h0
  simp only [keyV] at hE
  have HE := Lib.hid hE; clear hE
  have hcE : chkE ⟨⟨u, s, q⟩, v⟩ = if chkK ⟨u, s, q⟩ = 0 then (if 16384 < v.size then 2 else 0) else chkK ⟨u, s, q⟩ := rfl
  have HC := Lib.hid hcE; clear hcE
  generalize chkE ⟨⟨u, s, q⟩, v⟩ = ce at *
  generalize chkK ⟨u, s, q⟩ = ck at *
  show Calls Try.prog 26 #[.agg #[.string u, .int .u64 s, .int .i64 q, .string v]] w _
  go_enter Try.func26, Try.ntmps26
  go_wp2_with fail
  refine (HE.out _).mono ?_
  rintro e w1 ⟨x, rfl, hb1, hx⟩
  have hv : w1.cell? ⟨w.heap.size, 3, none⟩ = some (.string v) := (hb1.cell (p := ⟨w.heap.size, 3, none⟩) (by simp)).trans ((Blk.new w _ _).cell 3)
  have HB1 := Lib.hid (((Below.refl _ w).alloc (Nat.le_refl _) (.cells #[.string u, .int .u64 s, .int .i64 q, .string v] 48)).trans (hb1.mono (by simp)))
  have HX := Lib.hid (hx.base_le (show w.heap.size ≤ _ by simp))
  clear hb1 hx
  by_cases hck : ck = 0
  · subst hck
    by_cases hv16 : 16384 < v.size
    · have hd : decide ((16384 : Int) < (v.size : Int)) = true := by simp; omega
      have hce := HC.out
      rw [if_pos rfl, if_pos hv16] at hce
      subst hce
      go_wp2
      go_ret2
      exact ⟨_, rfl, HB1.out, fun h => by simp at h⟩
    · have hd : decide ((16384 : Int) < (v.size : Int)) = false := by simp; omega
      have hce := HC.out
      rw [if_pos rfl, if_neg hv16] at hce
      subst hce
      go_wp2
      go_ret2
      exact ⟨_, rfl, HB1.out, HX.out⟩
  · have hb : (ck == 0) = false := by simpa using hck
    have hce := HC.out
    rw [if_neg hck] at hce
    subst hce
    go_wp2
    go_ret2
    exact ⟨_, rfl, HB1.out, fun h => absurd h hck⟩
end Go.Proofs.Ytkajgpcnodgpcaa
