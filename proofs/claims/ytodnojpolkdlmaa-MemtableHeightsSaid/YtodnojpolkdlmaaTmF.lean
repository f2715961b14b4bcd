/-
  slices.Insert, not at the end.
-/
import Derived.Test.YtodnojpolkdlmaaTmE
namespace Go.Proofs.Ytodnojpolkdlmaa
set_option linter.unusedSimpArgs false
set_option linter.unusedVariables false
open Go.RowKit Go.IntWalk

theorem ov_any (g o vb la ca lb cb : Nat) (x : Tb) (cur : Array Value) (fz : Nat × Nat) (w : World) (hne : vb ≠ g) (hv : Blk w vb 71 #[.string x.b, .string x.e, .int .u64 x.s]) (hg : w.heap[g]? = some (.cells cur 71 fz)) (hc : cur.size ≠ 0) :
    (callFunc 48 #[.slice (some ⟨vb, 0, none⟩) la ca, .slice (some ⟨g, o, none⟩) lb cb]).run Try.prog w = .ok (.value (.bool false)) w := by
  have hz : ∀ w, (Go.sizeOf 71).run Try.prog w = .ok 3 w := by
    obtain ⟨i0, hi, hz0, hz1, hz2⟩ := info_parts info_tomb
    intro w
    simp [sizeOf, typeInfo, hi, hz1]
  rw [run_callFunc_extern Try.func48 (by kernel_rfl) (by kernel_rfl) (by kernel_rfl) (e := Extern.SlicesOverlaps.overlaps #[51, 51] #[4]) (by kernel_rfl),
    Lib.run_overlaps_apart w 51 4 71 Try.underlying51 3 hz ⟨vb, 0, none⟩ ⟨g, o, none⟩ la ca lb cb hne 71 71 3 cur.size
      (by unfold Blk at hv; simp [World.shape?, hv]) (by simp [World.shape?, hg]) hc (hv.frozen 0) (hv.frozen 3)]
  rfl
theorem ins_take {L : List Value} {l : List Tb} {i : Nat} {x : Tb} (hi : i < l.length) (hT : L.take (l.length * 3) = tbsC l) (hL : l.length * 3 + 3 ≤ L.length) :
    (sp (sp L ((i + 1) * 3) (tbsC (l.drop i))) (i * 3) (tbC x)).take ((l.length + 1) * 3) = tbsC (l.take i) ++ (tbC x ++ tbsC (l.drop i)) := by
  have hd : (tbsC (l.drop i)).length = (l.length - i) * 3 := by rw [tbsC_len, List.length_drop]
  have h := sp_two (L := L) (X := tbC x) (D := tbsC (l.drop i)) (a := i * 3) (b := (i + 1) * 3) (by rw [show (tbC x).length = 3 from rfl]; omega) (by rw [hd]; omega)
  rw [hd, show (i + 1) * 3 + (l.length - i) * 3 = (l.length + 1) * 3 by omega] at h
  rw [h]
  congr 1
  have := tbsC_take l i (by omega)
  rw [← hT, List.take_take, Nat.min_eq_left (by omega)] at this
  exact this
set_option maxHeartbeats 4000000 in
set_option maxRecDepth 100000 in
theorem insT_shift (g c i : Nat) (l : List Tb) (x : Tb) (vb base : Nat) (w : World) (hl : l.length ≤ 1000000) (hi : i < l.length) (hroom : l.length + 1 ≤ c) (ho : Own w base 71 3 (.slice (some ⟨g, 0, none⟩) l.length c) l.length (tbsC l)) (hv : Blk w vb 71 #[.string x.b, .string x.e, .int .u64 x.s]) (hne : vb ≠ g) :
    Calls Try.prog 26 #[.slice (some ⟨g, 0, none⟩) l.length c, .int .i64 i, .slice (some ⟨vb, 0, none⟩) 1 1] w fun e w' => e = .returned (.slice (some ⟨g, 0, none⟩) (l.length + 1) c) ∧ Own w' base 71 3 (.slice (some ⟨g, 0, none⟩) (l.length + 1) c) (l.length + 1) (tbsC (l.take i) ++ (tbC x ++ tbsC (l.drop i))) ∧ w.grownBy w' (some g) := by
  rcases ho.2 with ⟨h, -⟩ | ⟨g', cap, cur, fz, hve, hbg, hg, hfz, hnc, hcm, hcs, htake⟩
  · cases h
  injection hve with h1 h2 h3
  injection h1 with h1
  injection h1 with h1
  subst h1; subst h3
  clear h2
  have hlen := tbsC_len l
  have hov := fun o la ca lb cb => ov_any g o vb la ca lb cb x cur fz w hne hv hg (by omega)
  unfold maxLen at hcm
  have hbi : (0 : Int) ≤ (i : Int) + 1 ∧ (i : Int) + 1 ≤ (l.length : Int) + 1 := by omega
  have hb3 : (i : Int) ≤ (l.length : Int) + 1 := by omega
  have mixed : Try.prog.follows Departure.mixedOrders = true := by kernel_rfl
  have hz2 : ¬ ((i : Int) = (l.length : Int)) := by omega
  have hb2 : ¬ (c = i + 1) := by omega
  have hb4 : ¬ (c = i) := by omega
  have hw1 : IntKind.i64.wrap ((i : Int) + 1) = (i : Int) + 1 := i64_in _ (by omega)
  have hw2 : IntKind.i64.wrap ((l.length : Int) + 1) = (l.length : Int) + 1 := i64_in _ (by omega)
  have htn : ((i : Int) + 1).toNat = i + 1 := by omega
  have htn2 : ((l.length : Int) + 1).toNat = l.length + 1 := by omega
  have HV := Lib.hid hv
  have HG := Lib.hid hg
  have HT := Lib.hid htake
  have HF := Lib.hid hfz
  have HO := Lib.hid ho
  clear hv hg htake hfz ho
  obtain ⟨i0, hi0, hz0, hz1, hzb⟩ := info_parts info_tomb
  obtain ⟨C1, hC1⟩ : ∃ C1 : Array Value, C1 = (sp cur.toList ((i + 1) * 3) (tbsC (l.drop i))).toArray := ⟨_, rfl⟩
  obtain ⟨C2, hC2⟩ : ∃ C2 : Array Value, C2 = (sp C1.toList (i * 3) (tbC x)).toArray := ⟨_, rfl⟩
  have hdl : (tbsC (l.drop i)).length = (l.length - i) * 3 := by rw [tbsC_len, List.length_drop]
  have hcl : cur.toList.length = c * 3 := by rw [Array.length_toList]; exact hcs
  have hC1l : C1.size = cur.size := by rw [hC1, List.size_toArray, sp_len (by rw [hdl, hcl]; omega), hcl, hcs]
  have hxl : (tbC x).length = 3 := rfl
  have hcp1 : ∀ ty dc sc, (Builtin.copy_ #[51, 51] ty #[.slice (some ⟨g, (i + 1) * 3, none⟩) (l.length - i) dc, .slice (some ⟨g, i * 3, none⟩) (l.length + 1 - i) sc]).run Try.prog w.drew = .ok (goInt ((l.length - i : Nat) : Int)) (w.drew.setRow g C1) := fun ty dc sc => by
    have hr := HO.out.rd'.cut (i * 3)
    rw [tbsC_drop l i (by omega), Nat.zero_add] at hr
    rw [hC1]
    exact run_copyW (P := Try.prog) w.drew _ 51 ty _ 71 i0 g ((i + 1) * 3) (l.length - i) dc w.heap.size _ (l.length + 1 - i) sc (l.length - i) (tbsC (l.drop i)) cur fz Try.underlying51 hi0 (by simp only [Nat.min_def]; split <;> omega) (by rw [hz1]; exact hdl) (hr.of_blocks fun k _ => rfl) HG.out HF.out (by rw [hdl, hcs]; omega) (tb_one _)
  have hg1 := setRow_heap w.drew g cur C1 _ fz HG.out
  have hv1 : (w.drew.setRow g C1).heap[vb]? = w.heap[vb]? := setRow_other w.drew g vb C1 hne
  have HG1 := Lib.hid hg1
  have HV1 := Lib.hid hv1
  clear hg1 hv1
  have hcp2 : ∀ W : World, W.heap = (w.drew.setRow g C1).heap → ∀ ty dc, (Builtin.copy_ #[51, 51] ty #[.slice (some ⟨g, i * 3, none⟩) (l.length + 1 - i) dc, .slice (some ⟨vb, 0, none⟩) 1 1]).run Try.prog W = .ok (goInt 1) (W.setRow g C2) := fun W hW ty dc => by
    have hg2 : W.heap[g]? = some (.cells C1 71 fz) := by rw [hW]; exact HG1.out
    have hv2 : Blk W vb 71 #[.string x.b, .string x.e, .int .u64 x.s] := by unfold Blk; rw [hW, HV1.out]; exact HV.out
    rw [hC2]
    exact run_copyW (P := Try.prog) W _ 51 ty _ 71 i0 g (i * 3) (l.length + 1 - i) dc W.heap.size _ 1 1 1 (tbC x) C1 fz Try.underlying51 hi0 (by simp only [Nat.min_def]; split <;> omega) (by rw [hz1]; rfl) (ins_row hv2) hg2 (by rw [hC1l]; exact HF.out) (by rw [hxl, hC1l, hcs]; omega) (fun v hv => tb_one [x] v (by rw [tbsC_one, show tbsC [] = [] from rfl, List.append_nil]; exact hv))
  have HC1 := Lib.hid hC1
  have HC2 := Lib.hid hC2
  clear hC1 hC2
  go_enter Try.func26, Try.ntmps26
  go_wp2_with (simp only [hov])
  go_region_law_o (refine step_copy_runI rfl _ _ 51 51 rfl _ _ (by simp [Act.eval, Act.put]) (by simp [Act.eval, Act.put]) (hcp1 _ _ _) ?_)
  go_wp2_with (at_builtin; refine wpList_copy_runI _ rfl _ _ 51 51 rfl _ _ rfl rfl (hcp2 _ rfl _ _) ?_)
  go_ret
  have hT2 := ins_take (x := x) hi HT.out (by rw [hcl]; omega)
  have hC2l : C2.size = cur.size := by
    have h1 : C1.toList.length = C1.size := Array.length_toList
    rw [HC2.out, List.size_toArray, sp_len (by rw [h1, hC1l, hcs, hxl]; omega), h1, hC1l]
  refine ⟨rfl, ⟨?_, .inr ⟨g, c, C2, fz, rfl, hbg, setRow_heap _ g C1 C2 _ fz HG1.out, by rw [hC2l]; exact HF.out, hroom, by unfold maxLen; omega, by rw [hC2l]; exact hcs, ?_⟩⟩, ⟨rfl, rfl, rfl, by simp, fun k hk hn => ?_⟩⟩
  · rw [List.length_append, List.length_append, tbsC_len, hdl, hxl, List.length_take]; omega
  · rw [HC2.out, HC1.out]; exact hT2
  · have hkg : k ≠ g := fun h => hn (by rw [h])
    exact (setRow_other _ g k C2 hkg).trans (setRow_other w.drew g k C1 hkg)
end Go.Proofs.Ytodnojpolkdlmaa
