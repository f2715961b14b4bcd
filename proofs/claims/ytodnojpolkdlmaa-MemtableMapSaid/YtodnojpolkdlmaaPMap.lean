/-
  MemtableMap: with numbers that rise Get of the last one is what a map tells: for every input, no condition.
-/
import Derived.Test.YtodnojpolkdlmaaLawS
import Derived.Test.YtodnojpolkdlmaaMap
import Derived.ChangeMaps5
namespace Go.Proofs.Ytodnojpolkdlmaa
open Go.ChangeShapes Go.WideShapes Go.ChangeAt Go.RowKit Go.Deep

set_option maxRecDepth 100000 in
theorem memMap_lifted (os : Os) (started : os.Started) (H : Type) (enc : TypeId × Value → H) :
    ReturnsInHanded {} Try.checked os 4 .any (Rows.memtableMapSpec.pre6 enc Try.prog Try.f4 Rows.memtableMapRow.domain false) (Rows.memtableMapSpec.post enc Try.prog Try.f4 false true false false) := by
  refine returnsInHanded_of_change_sized (C := Try.checked) Try.own started (by kernel_rfl) Try.func4
    (ChangeSpec.witness6 (enc := enc) (C := Try.checked) false ⟨#[], #[.int .i64 0, .slice none 0 0, .slice none 0 0], []⟩ 8 (by kernel_rfl) (by kernel_rfl) (by kernel_rfl) (by kernel_rfl)) ?_
  intro W base args ds gs before hval0 hW hcnd hsz0 _
  have hval : ∀ (j : Nat) t v, Try.f4.params[j]? = some t → args[j]? = some v → Value.okWide Try.prog W .any base t v := hval0
  have hsz1 : (DataW.weightsEach Try.prog (Try.f4.params.toList ++ []) (ds ++ gs)).all (· ≤ reachBytes) = true := hsz0
  have hW' := hW
  obtain ⟨p, q, hA0, hV, rfl, hfz, hnd⟩ := hW
  have hA : DataW.TrodAll enc Try.prog W 0 (fun _ => true) true Try.f4.params.toList args.toList ds p := hA0
  rw [Try.params4] at hA hval hsz1
  obtain ⟨v0, v1, v2, d0, d1, d2, p0, p1, p2, rfl, rfl, rfl, h0, h1, h2⟩ := trodAll_three hA
  obtain ⟨rfl, rfl⟩ := trodVars_none hV
  obtain ⟨w0, hsz2⟩ := wt_cons hsz1
  obtain ⟨w1, hsz3⟩ := wt_cons hsz2
  obtain ⟨w2, hsz4⟩ := wt_cons hsz3
  obtain ⟨how, rfl, rfl, rfl, _⟩ := open_int Try.underlying3 (hval 0 _ v0 rfl rfl) h0
  obtain ⟨A, cap, l, rfl, hlc, hcap, hr⟩ := open_recs (hval 1 _ v1 rfl rfl) h1 w1
  obtain ⟨A2, cap2, keys, rfl, hlc2, hcap2, hr2⟩ := open_strs (hval 2 _ v2 rfl rfl) h2 w2
  clear hA0 hval0
  have hany : Calls Try.prog 4 #[.int .i64 how, .slice A l.length cap, .slice A2 keys.length cap2] W fun e w' => e = .returned (.bool true) ∧ Below W.heap.size W w' := by
    by_cases h0 : how = 0
    · exact memMap_any how A A2 cap cap2 l keys W (.inl h0) (by omega) (by omega) hr hr2
    by_cases h1 : how = 1
    · exact memMap_any how A A2 cap cap2 l keys W (.inr h1) (by omega) (by omega) hr hr2
    · exact memMap_bad how _ _ W h0 h1
  refine hany.mono fun e W' ⟨he, hw⟩ => ?_
  subst he
  exact ⟨_, rfl, law_post Try.underlying4 rfl (by kernel_rfl) rfl rfl rfl hW' hw rfl⟩

theorem memtableMap_holds : Rows.MemtableMapSaid :=
  OpenClaim.holds_of_wide 4 Try.f4 rfl rfl rfl rfl rfl rfl rfl ⟨rfl, rfl, rfl, rfl, rfl⟩ rfl rfl rfl rfl rfl (by kernel_rfl) Try.func4 (by kernel_rfl)
    (of_decide_eq_true (by kernel_rfl)) (by unfold Func.isWrapper; first | (rw [if_pos (by decide +kernel)]; kernel_rfl) | (rw [if_neg (by decide +kernel)]; exact ⟨rfl, rfl⟩))
    (fun os started H enc _ => memMap_lifted os started H enc)
end Go.Proofs.Ytodnojpolkdlmaa
