/-
  A skiplist: how high the next node is.
-/
import Derived.Test.YtodnojpolkdlmaaSkB
import Derived.Test.YtodnojpolkdlmaaSkC
import Derived.Deep.QuietTactic
import Derived.BigQuiet
namespace Go.Proofs.Ytodnojpolkdlmaa
set_option linter.unusedSimpArgs false
set_option linter.unusedVariables false
open Go.RowKit Go.IntWalk

def HtP (w : World) (e : Ending) (w' : World) : Prop := ∃ h : Nat, e = .returned (.int .i64 h) ∧ 1 ≤ h ∧ h ≤ 12 ∧ Below w.heap.size w w'
set_option maxHeartbeats 1000000 in
theorem mHeight_any (w : World) (g n B hc : Nat) (hA : Option Addr) (hl : List UInt8) (h1 : w.cell? ⟨g, 1, none⟩ = some (.slice hA hl.length hc)) (h7 : w.cell? ⟨g, 7, none⟩ = some (.int .i64 (n : Nat))) (hn : n ≤ 1000000000000)
    (hll : hl.length ≤ 1000000000000000) (hbs : Bs w B hA hl) : Calls Try.prog 50 #[.pointer (some ⟨g, 0, none⟩)] w (HtP w) := by
  by_cases h0 : hl = []
  · subst h0
    simp only [List.length_nil] at h1
    go_enter Try.func50, Try.ntmps50
    go_wp2_with fail
    go_loop [3, 4] (fun s3 s4 => ∃ (k h : Nat), s3 = .int .i64 k ∧ s4 = .int .i64 h ∧ k ≤ 1000000000001 ∧ 1 ≤ h ∧ h ≤ 12) (fun _ s4 => 12 - (intOf s4).toNat)
    case atStart => exact ⟨n + 1, 1, by go_num, rfl, by omega, by omega, by omega⟩
    case round =>
      obtain ⟨k, h, rfl, rfl, hk, hh1, hh2⟩ := hrel
      by_cases hk2 : k % 2 = 0
      · have hkz : (k : Int) % 2 = 0 := by omega
        by_cases hh : h < 12
        · go_wp2_with fail
          go_round
          case rel => exact ⟨k / 2, h + 1, by go_num, by go_num, by omega, by omega, by omega⟩
          case measure => simp [intOf]; omega
        · go_wp2_with fail
          go_ret
          exact ⟨h, rfl, hh1, hh2, Below.refl _ _⟩
      · have hkz : (((k : Int) % 2) == 0) = false := by rw [beq_eq_false_iff_ne]; omega
        go_wp2_with fail
        go_ret
        exact ⟨h, rfl, hh1, hh2, Below.refl _ _⟩
  · have hpos : 0 < hl.length := List.length_pos_iff.2 h0
    have hl0 : ((hl.length : Int) == 0) = false := by rw [beq_eq_false_iff_ne]; omega
    have hmod : n % hl.length < hl.length := Nat.mod_lt _ hpos
    obtain ⟨b, off, x, rfl, hb, hx, hcx, HX⟩ := byte_at hbs hmod
    have hmi : (n : Int) % (hl.length : Int) = ((n % hl.length : Nat) : Int) := by omega
    generalize n % hl.length = r at *
    have hri : (0 : Int) ≤ (r : Int) ∧ (r : Int) < (hl.length : Int) := by omega
    clear h0 HX
    go_enter Try.func50, Try.ntmps50
    go_wp2_with fail
    go_quiet (fail)
    go_wp2_with fail
    go_ret
    exact ⟨1 + x % 12, by go_num, by omega, by omega, below_drewN (Below.refl _ _) _⟩
end Go.Proofs.Ytodnojpolkdlmaa
