/-
  CodecKeys: the statement.
-/
import Derived.Test.YtbgmbnmdmjbciaaLaw
import Derived.Test.YtbgmbnmdmjbciaaKeys
namespace Go.Proofs.Ytbgmbnmdmjbciaa
open Go.ChangeShapes Go.WideShapes Go.ChangeAt Go.RowKit

set_option maxRecDepth 100000 in
theorem codecKeys_lifted (os : Os) (started : os.Started) (H : Type) (enc : TypeId × Value → H) :
    ReturnsInHanded {} Try.checked os 4 .any (Rows.codecKeysSpec.pre6 enc Try.prog Try.f4 Rows.codecKeysRow.domain false) (Rows.codecKeysSpec.post enc Try.prog Try.f4 false true false false) := by
  refine returnsInHanded_of_change_sized (C := Try.checked) Try.own started (by kernel_rfl) Try.func4
    (ChangeSpec.witness6 (enc := enc) (C := Try.checked) false ⟨#[], #[.agg #[.string ⟨#[]⟩, .int .u64 0, .int .i64 0], .slice none 0 0], []⟩ 8 (by kernel_rfl) (by kernel_rfl) (by kernel_rfl) (by kernel_rfl)) ?_
  intro W base args ds gs before hval0 hW hcnd hsz0 _
  have hval : ∀ (j : Nat) t v, Try.f4.params[j]? = some t → args[j]? = some v → Value.okWide Try.prog W .any base t v := hval0
  have hsz1 : (DataW.weightsEach Try.prog (Try.f4.params.toList ++ []) (ds ++ gs)).all (· ≤ reachBytes) = true := hsz0
  have hW' := hW
  obtain ⟨p, q, hA0, hV, rfl, hfz, hnd⟩ := hW
  have hA : DataW.TrodAll enc Try.prog W 0 (fun _ => true) true Try.f4.params.toList args.toList ds p := hA0
  rw [Try.params4] at hA hval hsz1
  obtain ⟨v0, v1, d0, d1, p0, p1, rfl, rfl, rfl, h0, h1⟩ := trodAll_two hA
  obtain ⟨rfl, rfl⟩ := trodVars_none hV
  obtain ⟨w0, hsz2⟩ := wt_cons hsz1
  obtain ⟨w1, hsz3⟩ := wt_cons hsz2
  obtain ⟨u, s, k, rfl, hu, hs0, hs1, hk0, hk1⟩ := open_key (hval 0 _ v0 rfl rfl) h0 w0
  obtain ⟨A, cap, l, rfl, hl, hc, hr⟩ := open_bytes (hval 1 _ v1 rfl rfl) h1 w1
  clear hA0 hval0
  refine (codecKeys_any u s k A cap l W hs0 hl hc hr).mono fun e W' ⟨he, hw⟩ => ?_
  subst he
  exact ⟨_, rfl, law_post Try.underlying4 rfl (by kernel_rfl) rfl rfl rfl hW' hw rfl⟩

theorem codecKeys_holds : Rows.CodecKeysSaid :=
  OpenClaim.holds_of_wide 4 Try.f4 rfl rfl rfl rfl rfl rfl rfl ⟨rfl, rfl, rfl, rfl, rfl⟩ rfl rfl rfl rfl rfl (by kernel_rfl) Try.func4 (by kernel_rfl)
    (of_decide_eq_true (by kernel_rfl)) (by unfold Func.isWrapper; first | (rw [if_pos (by decide +kernel)]; kernel_rfl) | (rw [if_neg (by decide +kernel)]; exact ⟨rfl, rfl⟩))
    (fun os started H enc _ => codecKeys_lifted os started H enc)
end Go.Proofs.Ytbgmbnmdmjbciaa
