/-
  CodecLaws: the statement.
-/
import Derived.Test.YtbgmbnmdmjbciaaLaw
import Derived.Test.YtbgmbnmdmjbciaaLaws
namespace Go.Proofs.Ytbgmbnmdmjbciaa
open Go.ChangeShapes Go.WideShapes Go.ChangeAt Go.RowKit Go.Deep

theorem array9 {α : Type} {cs : Array α} (h : cs.size = 9) : ∃ c0 c1 c2 c3 c4 c5 c6 c7 c8, cs = #[c0, c1, c2, c3, c4, c5, c6, c7, c8] := by
  obtain ⟨l⟩ := cs
  match l, h with
  | [c0, c1, c2, c3, c4, c5, c6, c7, c8], _ => exact ⟨c0, c1, c2, c3, c4, c5, c6, c7, c8, rfl⟩
theorem key_form {H : Type} {enc : TypeId × Value → H} {W : World} {n : Nat} {c0 c1 c2 : Value} {y : DataW H × List MemPlace}
    (h : DataW.trod enc Try.prog W 0 (fun _ => true) true n 30 [c0, c1, c2] = some y) : ∃ (u : ByteArray) (s k : Int), c0 = .string u ∧ c1 = .int .u64 s ∧ c2 = .int .i64 k := by
  obtain ⟨y0, y1, y2, m, _, _, e0, e1, e2⟩ := trod_struct3 Try.underlying30 h
  obtain ⟨s0, h0, _⟩ := DataW.trod_string Try.underlying9 e0
  obtain ⟨s1, h1, _⟩ := DataW.trod_int Try.underlying28 e1
  obtain ⟨s2, h2, _⟩ := DataW.trod_int Try.underlying3 e2
  have k0 : Try.prog.cellsOf 9 = 1 := by kernel_rfl
  have k1 : Try.prog.cellsOf 28 = 1 := by kernel_rfl
  have k2 : Try.prog.cellsOf 3 = 1 := by kernel_rfl
  simp [k0] at h0
  simp [k1] at h1
  simp [k2] at h2
  exact ⟨s0, s1, s2, h0, h1, h2⟩
theorem open_three {H : Type} {enc : TypeId × Value → H} {W : World} {r : Reach} {b0 : Nat} {v : Value} {d : DataW H} {p : List MemPlace} (hv : Value.okWide Try.prog W r b0 39 v)
    (h : DataW.Trod enc Try.prog W 0 (fun _ => true) true 39 v d p) :
    ∃ (ua : ByteArray) (sa ka : Int) (ub : ByteArray) (sb kb : Int) (uc : ByteArray) (sc kc : Int), v = .agg #[.string ua, .int .u64 sa, .int .i64 ka, .string ub, .int .u64 sb, .int .i64 kb, .string uc, .int .u64 sc, .int .i64 kc] := by
  obtain ⟨cs, rfl, hsz⟩ := okWide_struct Try.underlying39 hv
  obtain ⟨c0, c1, c2, c3, c4, c5, c6, c7, c8, rfl⟩ := array9 (hsz.trans (show Try.prog.cellsOf 39 = 9 by kernel_rfl))
  obtain ⟨fuel, hf⟩ := h
  obtain ⟨y0, y1, y2, n, _, _, h0, h1, h2⟩ := trod_struct3 Try.underlying39 hf
  have kk : Try.prog.cellsOf 30 = 3 := by kernel_rfl
  simp [Value.cells, kk] at h0 h1 h2
  obtain ⟨ua, sa, ka, rfl, rfl, rfl⟩ := key_form h0
  obtain ⟨ub, sb, kb, rfl, rfl, rfl⟩ := key_form h1
  obtain ⟨uc, sc, kc, rfl, rfl, rfl⟩ := key_form h2
  exact ⟨ua, sa, ka, ub, sb, kb, uc, sc, kc, rfl⟩

set_option maxRecDepth 100000 in
theorem codecLaws_lifted (os : Os) (started : os.Started) (H : Type) (enc : TypeId × Value → H) :
    ReturnsInHanded {} Try.checked os 5 .any (Rows.codecLawsSpec.pre6 enc Try.prog Try.f5 Rows.codecLawsRow.domain false) (Rows.codecLawsSpec.post enc Try.prog Try.f5 false true false false) := by
  refine returnsInHanded_of_change_sized (C := Try.checked) Try.own started (by kernel_rfl) Try.func5
    (ChangeSpec.witness6 (enc := enc) (C := Try.checked) false ⟨#[], #[.int .i64 0, .agg #[.string ⟨#[]⟩, .int .u64 0, .int .i64 0, .string ⟨#[]⟩, .int .u64 0, .int .i64 0, .string ⟨#[]⟩, .int .u64 0, .int .i64 0]], []⟩ 8 (by kernel_rfl) (by kernel_rfl) (by kernel_rfl) (by kernel_rfl)) ?_
  intro W base args ds gs before hval0 hW hcnd hsz0 _
  have hval : ∀ (j : Nat) t v, Try.f5.params[j]? = some t → args[j]? = some v → Value.okWide Try.prog W .any base t v := hval0
  have hsz1 : (DataW.weightsEach Try.prog (Try.f5.params.toList ++ []) (ds ++ gs)).all (· ≤ reachBytes) = true := hsz0
  have hW' := hW
  obtain ⟨p, q, hA0, hV, rfl, hfz, hnd⟩ := hW
  have hA : DataW.TrodAll enc Try.prog W 0 (fun _ => true) true Try.f5.params.toList args.toList ds p := hA0
  rw [Try.params5] at hA hval hsz1
  obtain ⟨v0, v1, d0, d1, p0, p1, rfl, rfl, rfl, h0, h1⟩ := trodAll_two hA
  obtain ⟨rfl, rfl⟩ := trodVars_none hV
  obtain ⟨w0, hsz2⟩ := wt_cons hsz1
  obtain ⟨how, rfl, rfl, rfl, _⟩ := open_int Try.underlying3 (hval 0 _ v0 rfl rfl) h0
  obtain ⟨ua, sa, ka, ub, sb, kb, uc, sc, kc, rfl⟩ := open_three (hval 1 _ v1 rfl rfl) h1
  clear hA0 hval0
  refine (codecLaws_any how ua ub uc sa ka sb kb sc kc W).mono fun e W' ⟨he, hw⟩ => ?_
  subst he
  exact ⟨_, rfl, law_post Try.underlying4 rfl (by kernel_rfl) rfl rfl rfl hW' hw rfl⟩

theorem codecLaws_holds : Rows.CodecLawsSaid :=
  OpenClaim.holds_of_wide 5 Try.f5 rfl rfl rfl rfl rfl rfl rfl ⟨rfl, rfl, rfl, rfl, rfl⟩ rfl rfl rfl rfl rfl (by kernel_rfl) Try.func5 (by kernel_rfl)
    (of_decide_eq_true (by kernel_rfl)) (by unfold Func.isWrapper; first | (rw [if_pos (by decide +kernel)]; kernel_rfl) | (rw [if_neg (by decide +kernel)]; exact ⟨rfl, rfl⟩))
    (fun os started H enc _ => codecLaws_lifted os started H enc)
end Go.Proofs.Ytbgmbnmdmjbciaa
