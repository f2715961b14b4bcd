/-
  Two lists of entries that read alike are the same.
-/
import Derived.Test.YtkajgpcnodgpcaaBlkC
import Derived.Deep.QuietTactic
import Derived.BigQuiet
namespace Go.Proofs.Ytkajgpcnodgpcaa
set_option linter.unusedSimpArgs false
set_option linter.unusedVariables false
open Go.RowKit Go.IntWalk

set_option maxHeartbeats 1000000 in
theorem bSame_yes (l : List E) (A1 A2 : Option Addr) (c1 c2 B1 B2 : Nat) (w : World) (hl : l.length ≤ 140737488351240) (h1 : Rd w B1 A1 (entsC l)) (h2 : Rd w B2 A2 (entsC l)) (hB1 : B1 ≤ w.heap.size) (hB2 : B2 ≤ w.heap.size) :
    Calls Try.prog 11 #[.slice A1 l.length c1, .slice A2 l.length c2] w fun e w' => e = .returned (.bool true) ∧ Below w.heap.size w w' := by
  go_enter Try.func11, Try.ntmps11
  go_wp2
  go_loopw [5] (fun i wr => ∃ k : Nat, k ≤ l.length ∧ i = .int .i64 k ∧ Hid (Below w.heap.size w wr)) (fun i _ => l.length - (intOf i).toNat)
  case atStart => exact ⟨0, Nat.zero_le _, rfl, Below.refl _ _⟩
  case round =>
    obtain ⟨k, hk, rfl, HW⟩ := hrel
    by_cases hka : k < l.length
    · obtain ⟨b1, o1, rfl, -, t0, t1, t2, t3⟩ := ent_at (h1.keep (HW.out.mono hB1)) hka
      obtain ⟨b2, o2, rfl, -, r0, r1, r2, r3⟩ := ent_at (h2.keep (HW.out.mono hB2)) hka
      generalize l[k] = ee at *
      obtain ⟨⟨u, s, q⟩, v⟩ := ee
      dsimp only at t0 t1 t2 t3 r0 r1 r2 r3
      go_wp2_with fail
      go_quiet (fail)
      go_wp2_with fail
      go_roundw
      case rel => exact ⟨k + 1, by omega, by go_num, below_drewN HW.out _⟩
      case measure => simp [intOf]; omega
    · obtain rfl : k = l.length := by omega
      go_wp2
      go_ret
      exact ⟨rfl, HW.out⟩
end Go.Proofs.Ytkajgpcnodgpcaa
