/-
  The law CodecSums, walked.
-/
import Derived.Test.YtbgmbnmdmjbciaaCodH
namespace Go.Proofs.Ytbgmbnmdmjbciaa
open Go.RowKit
set_option linter.unusedSimpArgs false

set_option maxHeartbeats 1000000 in
theorem codecSums_any (A : Option Addr) (cap : Nat) (l : List UInt8) (n : Int) (w : World) (hl : l.length ≤ 140737488355328) (h0 : 0 ≤ n) (h1 : n ≤ 4294967295) (hr : Bs w w.heap.size A l) :
    Calls Try.prog 3 #[.slice A l.length cap, .int .u32 n] w fun e w' => e = .returned (.bool true) ∧ Below w.heap.size w w' := by
  obtain ⟨i0, hi, hz0, hz1, hz2⟩ : ∃ i : TypeInfo, Try.prog.info? 5 = some i ∧ i.zero = some (.int .u8 0) ∧ i.size = 1 ∧ i.bytes = 1 := ⟨_, Try.type5, rfl, rfl, rfl⟩
  have hm8 : l.length ≤ maxLen := by unfold maxLen; omega
  go_enter Try.func3, Try.ntmps3
  go_wp2_with (at_builtin; go_loud (refine wpList_append _ rfl (.tmp 5) (.tmp 6) 22 22 rfl w.heap.size 5 i0 (.int .u8 0) 1 1 Try.underlying22 hi hz0 hz1 hz2 rfl (by decide) _ 0 [] rfl ((Blk.new w 5 #[]).own (Nat.le_refl _) (Nat.le_refl _) (by decide) rfl rfl) _ l.length (l.map byteV) rfl (Src.slice _ Try.underlying22 (by simp) (hr.next (((Below.refl _ _).alloc (Nat.le_refl _) _)))) (by simp [byteV, Value.oneCell']) (by omega) (by omega) (by simp) ?_; intro v1 w1 ho hg _; simp only [Nat.zero_add, List.nil_append] at ho; have hb1 := below_append ((Below.refl _ w).alloc (Nat.le_refl _) (.cells #[] 5)) ((Blk.new w 5 #[]).own (base := w.heap.size) (n := 0) (cap := 0) (size := 1) (xs := []) (Nat.le_refl _) (Nat.le_refl _) (by decide) rfl rfl) (Nat.le_refl _) (by simp) hg; clear hg; obtain ⟨A1, c1, rfl, _, _, hr1⟩ := ho.rd))
  refine (cSum_any A1 c1 l _ (by omega) hr1).mono ?_
  rintro e w2 ⟨rfl, hb2⟩
  have hb2 := hb1.trans (hb2.mono hb1.size)
  go_wp2_with fail
  refine (rSum_any A cap l w.heap.size _ (by omega) (hr.keep hb2)).mono ?_
  rintro e w3 ⟨rfl, rfl⟩
  go_wp2_with fail
  refine (cMask_any n _ h0 h1).mono ?_
  rintro e w4 ⟨rfl, rfl⟩
  go_wp2_with fail
  refine (rMask_any n _ h0 h1).mono ?_
  rintro e w5 ⟨rfl, rfl⟩
  go_wp2_with fail
  refine (cUnmask_any n _).mono ?_
  rintro e w6 ⟨rfl, rfl⟩
  go_wp2_with fail
  refine (rUnmask_any n _).mono ?_
  rintro e w7 ⟨rfl, rfl⟩
  go_wp2_with fail
  refine (cMask_any n _ h0 h1).mono ?_
  rintro e w8 ⟨rfl, rfl⟩
  go_wp2_with fail
  refine (cUnmask_any (maskI n) _).mono ?_
  rw [unmask_mask n h0 h1]
  rintro e w9 ⟨rfl, rfl⟩
  go_wp2_with fail
  refine (lives01_any _).mono ?_
  rintro e w10 ⟨rfl, hb3⟩
  go_wp2_with fail
  go_ret
  exact ⟨ret_bool rfl, hb2.trans (hb3.mono hb2.size)⟩
end Go.Proofs.Ytbgmbnmdmjbciaa
