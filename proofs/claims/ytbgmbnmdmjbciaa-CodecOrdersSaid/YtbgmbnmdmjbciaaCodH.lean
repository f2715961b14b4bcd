/-
  'lives' of layer 1: the document's first examples hold.
-/
import Derived.Test.YtbgmbnmdmjbciaaCodG
import Derived.Test.YtbgmbnmdmjbciaaCodD
import Derived.Lib.SlBytesConst
namespace Go.Proofs.Ytbgmbnmdmjbciaa
open Go.RowKit
set_option linter.unusedSimpArgs false

theorem enc_first : encB ⟨#[97]⟩ 1 1 = [97, 1, 1, 0, 0, 0, 0, 0, 0] := by decide +kernel
theorem crc_first : 4294967295 - crcL [49, 50, 51, 52, 53, 54, 55, 56, 57] 4294967295 = 3808858755 := by decide +kernel
theorem mask_first : maskI 0 = 2726488792 := by decide +kernel
theorem cmp_first : cmpH 0 ⟨#[97]⟩ ⟨#[98]⟩ = -1 := by decide +kernel
set_option maxHeartbeats 1000000 in
theorem lives01_any (w : World) :
    Calls Try.prog 13 #[] w fun e w' => e = .returned (.bool true) ∧ Below w.heap.size w w' := by
  have kc := fun (w : World) (C : Array Value) (n c : Nat) => Lib.run_convert_bytes_const (P := Try.prog) w 22 5 C n c Try.underlying22 Try.underlying5
  go_enter Try.func13, Try.ntmps13
  go_wp2_with fail
  refine (cEncode_ok ⟨#[97]⟩ 1 1 _ (by decide) (by omega) (by omega)).mono ?_
  rintro e w1 ⟨v, rfl, hb, ho⟩
  rw [enc_first] at ho
  obtain ⟨g, c, rfl, hg, _⟩ := ho.form (by decide)
  have hr : Bs w1 w1.heap.size (some ⟨g, 0, none⟩) [97, 1, 1, 0, 0, 0, 0, 0, 0] := ho.rd'
  have hcv := run_toString w1 (P := Try.prog) 22 9 5 (some ⟨g, 0, none⟩) c _ [97, 1, 1, 0, 0, 0, 0, 0, 0] Try.underlying22 Try.underlying5 Try.underlying9 hr
  change Sem.run Try.prog (convert 22 9 (.slice (some ⟨g, 0, none⟩) 9 c)) w1 = _ at hcv
  go_wp2_with fail
  refine (cSum_any (some ⟨w1.heap.size, 0, none⟩) 9 [49, 50, 51, 52, 53, 54, 55, 56, 57] _ (by decide) ((Rd.new w1 #[.int .u8 49, .int .u8 50, .int .u8 51, .int .u8 52, .int .u8 53, .int .u8 54, .int .u8 55, .int .u8 56, .int .u8 57] 5 (9, 10)).more (by simp))).mono ?_
  rw [crc_first]
  rintro e w2 ⟨rfl, hb2⟩
  go_wp2_with fail
  refine (cMask_any 0 _ (by omega) (by omega)).mono ?_
  rw [mask_first]
  rintro e w3 ⟨rfl, rfl⟩
  go_wp2_with fail
  refine (cCompare_any 0 ⟨#[97]⟩ ⟨#[98]⟩ _).mono ?_
  rw [cmp_first]
  rintro e w4 ⟨rfl, rfl⟩
  go_wp2_with fail
  go_ret
  exact ⟨ret_bool rfl, hb.trans (((Below.refl _ _).alloc (Nat.le_refl _) _).trans (hb2.mono (by simp)) |>.mono hb.size)⟩
end Go.Proofs.Ytbgmbnmdmjbciaa
