/-
  Records that can be, by the document; a table of nothing.
-/
import Derived.Test.YtodnojpolkdlmaaTmA
import Derived.Test.YtodnojpolkdlmaaSkE
import Derived.Deep.QuietTactic
import Derived.BigQuiet
namespace Go.Proofs.Ytodnojpolkdlmaa
set_option linter.unusedSimpArgs false
set_option linter.unusedVariables false
open Go.RowKit Go.IntWalk

def mostI (k : Int) : Int := if k = 1 then 16384 else if k = 2 then 1024 else 9223372036854775807
theorem r3most_any (k : Int) (w : World) : Calls Try.prog 63 #[.int .i64 k] w fun e w' => e = .returned (.int .i64 (mostI k)) ∧ w' = w := by
  by_cases h1 : k = 1
  · subst h1
    go_enter Try.func63, Try.ntmps63
    go_wp2
    go_ret
    exact ⟨rfl, rfl⟩
  by_cases h2 : k = 2
  · subst h2
    go_enter Try.func63, Try.ntmps63
    go_wp2
    go_ret
    exact ⟨rfl, rfl⟩
  · have hm : mostI k = 9223372036854775807 := by unfold mostI; rw [if_neg h1, if_neg h2]
    rw [hm]
    have e1 : (k == 1) = false := by simpa using h1
    have e2 : (k == 2) = false := by simpa using h2
    clear h1 h2 hm
    go_enter Try.func63, Try.ntmps63
    go_wp2
    go_ret
    exact ⟨rfl, rfl⟩
set_option maxHeartbeats 1000000 in
theorem r3Chk_any (r : Rc) (w : World) (hs : r.v.size ≤ 9223372036854775807) : Calls Try.prog 54 #[.agg #[.int .u32 r.f, .int .i64 r.k, .string r.key, .string r.v]] w fun e w' => e = .returned (.int .i64 (chkR r)) ∧ Below w.heap.size w w' := by
  obtain ⟨f, k, key, v⟩ := r
  dsimp only at *
  have hC : chkR ⟨f, k, key, v⟩ = if k < 0 ∨ 2 < k then 1 else if 1024 < key.size ∨ mostR k v.size < v.size then 2 else 0 := rfl
  generalize chkR ⟨f, k, key, v⟩ = c at *
  by_cases hk : k < 0 ∨ 2 < k
  · rw [if_pos hk] at hC
    have HC := Lib.hid hC
    clear hC
    by_cases h0 : k < 0
    · have hd : decide (k < 0) = true := by simpa using h0
      go_enter Try.func54, Try.ntmps54
      go_wp2_with fail
      go_ret
      exact ⟨ret_int (by rw [HC.out]), (Below.refl _ _).alloc (Nat.le_refl _) _⟩
    · have hd : decide (k < 0) = false := by simpa using h0
      have hd2 : decide (2 < k) = true := by simp; omega
      go_enter Try.func54, Try.ntmps54
      go_wp2_with fail
      go_ret
      exact ⟨ret_int (by rw [HC.out]), (Below.refl _ _).alloc (Nat.le_refl _) _⟩
  · rw [if_neg hk] at hC
    have hd : decide (k < 0) = false := by simp; omega
    have hd2 : decide (2 < k) = false := by simp; omega
    have hmr : mostI k < (v.size : Int) ↔ mostR k v.size < v.size := by
      unfold mostI mostR
      by_cases h0 : k = 0
      · subst h0; simp; omega
      · by_cases h1 : k = 1
        · subst h1; simp; omega
        · have : k = 2 := by omega
          subst this; simp; omega
    have hM := fun w => r3most_any k w
    generalize mostI k = mk at *
    by_cases hkey : 1024 < key.size
    · rw [if_pos (.inl hkey)] at hC
      have HC := Lib.hid hC
      have hk3 : decide ((1024 : Int) < (key.size : Int)) = true := by simp; omega
      clear hC hmr
      go_enter Try.func54, Try.ntmps54
      go_wp2_with fail
      go_quiet (fail)
      go_wp2_with fail
      go_ret
      exact ⟨ret_int (by rw [HC.out]), below_drewN ((Below.refl _ _).alloc (Nat.le_refl _) _) _⟩
    · have hk3 : decide ((1024 : Int) < (key.size : Int)) = false := by simp; omega
      have HMM := Lib.hid hM
      clear hM
      by_cases hv : mk < (v.size : Int)
      · rw [if_pos (.inr (hmr.1 hv))] at hC
        have HC := Lib.hid hC
        have hv3 : decide (mk < (v.size : Int)) = true := by simpa using hv
        clear hC hmr
        go_enter Try.func54, Try.ntmps54
        go_wp2_with fail
        go_quiet ((go_at_call 63; exact Calls.quiet_of_same (HMM.out _)))
        go_wp2_with fail
        go_ret
        exact ⟨ret_int (by rw [HC.out]), below_drewN ((Below.refl _ _).alloc (Nat.le_refl _) _) _⟩
      · rw [if_neg (by rintro (h | h); exact hkey h; exact hv (hmr.2 h))] at hC
        have HC := Lib.hid hC
        have hv3 : decide (mk < (v.size : Int)) = false := by simpa using hv
        clear hC hmr
        go_enter Try.func54, Try.ntmps54
        go_wp2_with fail
        go_quiet ((go_at_call 63; exact Calls.quiet_of_same (HMM.out _)))
        go_wp2_with fail
        go_ret
        exact ⟨ret_int (by rw [HC.out]), below_drewN ((Below.refl _ _).alloc (Nat.le_refl _) _) _⟩
end Go.Proofs.Ytodnojpolkdlmaa
