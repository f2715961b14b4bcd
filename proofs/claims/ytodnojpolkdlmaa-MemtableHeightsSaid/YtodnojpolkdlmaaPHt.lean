/-
  MemtableHeights: how high nodes are changes nothing in what is told: for every input, no condition.
-/
import Derived.Test.YtodnojpolkdlmaaLawS
import Derived.Test.YtodnojpolkdlmaaHt
import Derived.ChangeMaps5
namespace Go.Proofs.Ytodnojpolkdlmaa
open Go.ChangeShapes Go.WideShapes Go.ChangeAt Go.RowKit Go.Deep

set_option maxRecDepth 100000 in
theorem memHts_lifted (os : Os) (started : os.Started) (H : Type) (enc : TypeId × Value → H) :
    ReturnsInHanded {} Try.checked os 5 .any (Rows.memtableHeightsSpec.pre6 enc Try.prog Try.f5 Rows.memtableHeightsRow.domain false) (Rows.memtableHeightsSpec.post enc Try.prog Try.f5 false true false false) := by
  refine returnsInHanded_of_change_sized (C := Try.checked) Try.own started (by kernel_rfl) Try.func5
    (ChangeSpec.witness6 (enc := enc) (C := Try.checked) false ⟨#[], #[.slice none 0 0, .slice none 0 0, .string ⟨#[]⟩], []⟩ 8 (by kernel_rfl) (by kernel_rfl) (by kernel_rfl) (by kernel_rfl)) ?_
  intro W base args ds gs before hval0 hW hcnd hsz0 _
  have hval : ∀ (j : Nat) t v, Try.f5.params[j]? = some t → args[j]? = some v → Value.okWide Try.prog W .any base t v := hval0
  have hsz1 : (DataW.weightsEach Try.prog (Try.f5.params.toList ++ []) (ds ++ gs)).all (· ≤ reachBytes) = true := hsz0
  have hW' := hW
  obtain ⟨p, q, hA0, hV, rfl, hfz, hnd⟩ := hW
  have hA : DataW.TrodAll enc Try.prog W 0 (fun _ => true) true Try.f5.params.toList args.toList ds p := hA0
  rw [Try.params5] at hA hval hsz1
  obtain ⟨v0, v1, v2, d0, d1, d2, p0, p1, p2, rfl, rfl, rfl, h0, h1, h2⟩ := trodAll_three hA
  obtain ⟨rfl, rfl⟩ := trodVars_none hV
  obtain ⟨w0, hsz2⟩ := wt_cons hsz1
  obtain ⟨w1, hsz3⟩ := wt_cons hsz2
  obtain ⟨A, cap, hs, rfl, hlc, hcap, hr⟩ := open_bytes (hval 0 _ v0 rfl rfl) h0 w0
  obtain ⟨A2, cap2, l, rfl, hlc2, hcap2, hr2⟩ := open_recs (hval 1 _ v1 rfl rfl) h1 w1
  obtain ⟨key, rfl, rfl, rfl, _⟩ := Go.ChangeMaps.open_string Try.underlying9 (hval 2 _ v2 rfl rfl) h2
  clear hA0 hval0
  refine (memHts_any A A2 cap cap2 hs l key W (by omega) (by omega) hr hr2).mono fun e W' ⟨he, hw⟩ => ?_
  subst he
  exact ⟨_, rfl, law_post Try.underlying4 rfl (by kernel_rfl) rfl rfl rfl hW' hw rfl⟩

theorem memtableHeights_holds : Rows.MemtableHeightsSaid :=
  OpenClaim.holds_of_wide 5 Try.f5 rfl rfl rfl rfl rfl rfl rfl ⟨rfl, rfl, rfl, rfl, rfl⟩ rfl rfl rfl rfl rfl (by kernel_rfl) Try.func5 (by kernel_rfl)
    (of_decide_eq_true (by kernel_rfl)) (by unfold Func.isWrapper; first | (rw [if_pos (by decide +kernel)]; kernel_rfl) | (rw [if_neg (by decide +kernel)]; exact ⟨rfl, rfl⟩))
    (fun os started H enc _ => memHts_lifted os started H enc)
end Go.Proofs.Ytodnojpolkdlmaa
