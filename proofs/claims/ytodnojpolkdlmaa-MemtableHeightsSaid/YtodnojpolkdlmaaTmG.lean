/-
  slices.Insert, not at the end, no room.
-/
import Derived.Test.YtodnojpolkdlmaaTmF
namespace Go.Proofs.Ytodnojpolkdlmaa
set_option linter.unusedSimpArgs false
set_option linter.unusedVariables false
open Go.RowKit Go.IntWalk

theorem ins_take' {L : List Value} {l : List Tb} {i : Nat} {x : Tb} (hi : i < l.length) (hT : L.take (i * 3) = tbsC (l.take i)) (hL : l.length * 3 + 3 ≤ L.length) :
    (sp (sp L (i * 3) (tbC x)) ((i + 1) * 3) (tbsC (l.drop i))).take ((l.length + 1) * 3) = tbsC (l.take i) ++ (tbC x ++ tbsC (l.drop i)) := by
  have hd : (tbsC (l.drop i)).length = (l.length - i) * 3 := by rw [tbsC_len, List.length_drop]
  have h := sp_two' (L := L) (X := tbC x) (D := tbsC (l.drop i)) (a := i * 3) (b := (i + 1) * 3) (by rw [show (tbC x).length = 3 from rfl]; omega) (by rw [hd]; omega)
  rw [hd, show (i + 1) * 3 + (l.length - i) * 3 = (l.length + 1) * 3 by omega] at h
  rw [h, hT]
set_option maxHeartbeats 4000000 in
set_option maxRecDepth 100000 in
theorem insT_grow (g c i : Nat) (l : List Tb) (x : Tb) (vb base : Nat) (w : World) (hl : l.length ≤ 1000000) (hi : i < l.length) (hnc : l.length ≤ c) (hroom : c < l.length + 1) (ho : Own w base 71 3 (.slice (some ⟨g, 0, none⟩) l.length c) l.length (tbsC l)) (hv : Blk w vb 71 #[.string x.b, .string x.e, .int .u64 x.s]) (hbase : base ≤ w.heap.size) :
    Calls Try.prog 26 #[.slice (some ⟨g, 0, none⟩) l.length c, .int .i64 i, .slice (some ⟨vb, 0, none⟩) 1 1] w fun e w' => ∃ G, e = .returned (.slice (some ⟨w.heap.size, 0, none⟩) (l.length + 1) G) ∧ Own w' base 71 3 (.slice (some ⟨w.heap.size, 0, none⟩) (l.length + 1) G) (l.length + 1) (tbsC (l.take i) ++ (tbC x ++ tbsC (l.drop i))) ∧ w.grownBy w' none := by
  obtain ⟨i0, hi0, hz0, hz1, hzb⟩ := info_parts info_tomb
  have hgw : g < w.heap.size := (ho.lt g rfl).2
  have hvw := hv.lt
  have hlen := tbsC_len l
  obtain ⟨G, hG⟩ : ∃ G, G = grownCap w (l.length + 1) c 71 := ⟨_, rfl⟩
  have hGn : l.length + 1 ≤ G := by rw [hG]; exact grownCap_ge w _ _ _
  have hGm : G ≤ maxLen := by rw [hG]; exact grownCap_le_maxLen w _ _ _ (by unfold maxLen; omega)
  obtain ⟨ROW, hROW⟩ : ∃ ROW : Array Value, ROW = (tbsC (l.take i)).toArray ++ Builtin.zeroCells (Value.agg #[.string ⟨#[]⟩, .string ⟨#[]⟩, .int .u64 0]).cells (l.length + 1 - i) ++ Builtin.zeroCells (Value.agg #[.string ⟨#[]⟩, .string ⟨#[]⟩, .int .u64 0]).cells (G - (l.length + 1)) := ⟨_, rfl⟩
  have htl : (tbsC (l.take i)).length = i * 3 := by rw [tbsC_len, List.length_take]; omega
  have hz3 : ∀ n, (Builtin.zeroCells (Value.agg #[.string ⟨#[]⟩, .string ⟨#[]⟩, .int .u64 0]).cells n).size = n * 3 := fun n => size_zeroCells _ n
  have hRs : ROW.size = G * 3 := by rw [hROW, Array.size_append, Array.size_append, hz3, hz3, List.size_toArray, htl]; omega
  have hRl : ROW.toList.length = G * 3 := by rw [Array.length_toList]; exact hRs
  have hRT : ROW.toList.take (i * 3) = tbsC (l.take i) := by
    rw [hROW, Array.toList_append, Array.toList_append, List.append_assoc, ← htl]
    exact List.take_left
  have hik : i + (l.length + 1 - i) = l.length + 1 := by omega
  have hkk : (l.length : Int) + 1 - (i : Int) = ((l.length + 1 - i : Nat) : Int) := by omega
  have hrz : ∀ ty, (Builtin.append_ #[51, 3] ty #[.slice (some ⟨g, 0, none⟩) i c, .int .i64 ((l.length : Int) + 1 - (i : Int))]).run Try.prog w =
      .ok (.slice (some ⟨w.heap.size, 0, none⟩) (l.length + 1) G) (w.drew.alloc (.cells ROW 71)) := fun ty => by
    have hold : (Builtin.firstCells i0.size i (.slice (some ⟨g, 0, none⟩) i c)).run Try.prog w.drew = .ok (tbsC (l.take i)).toArray w.drew := by
      have hr := ho.rd'.take (i * 3)
      rw [tbsC_take l i (by omega)] at hr
      exact run_firstCells_rd (P := Try.prog) w.drew i0.size i c w.heap.size _ _ (by rw [hz1]; exact htl) (hr.of_blocks fun k _ => rfl)
    have h := Lib.run_append_grow_zeros w 51 3 ty 71 i0 _ .i64 .i64 Try.underlying51 Try.underlying3 hi0 hz0 (some ⟨g, 0, none⟩) i c (tbsC (l.take i)) hold (l.length + 1 - i) (by omega) (by omega) (by omega) (by omega) (by rw [hzb]; omega) (by rw [hzb, hik]; exact growslice_fits hroom (by omega))
    rw [hik, ← hG, ← hROW] at h
    rw [hkk]
    exact h
  obtain ⟨W1, hW1⟩ : ∃ W1, W1 = w.drew.alloc (.cells ROW 71) := ⟨_, rfl⟩
  have hg1 : W1.heap[w.heap.size]? = some (.cells ROW 71 (0, 0)) := by rw [hW1]; exact heap_alloc_new w.drew _
  have ho1 : ∀ k, k < w.heap.size → W1.heap[k]? = w.heap[k]? := fun k hk => by rw [hW1]; exact heap_alloc_old w.drew _ hk
  have hW1w : W1 = w.drew.alloc (.cells ROW 71) := hW1
  rw [← hW1] at hrz
  obtain ⟨C1, hC1⟩ : ∃ C1 : Array Value, C1 = (sp ROW.toList (i * 3) (tbC x)).toArray := ⟨_, rfl⟩
  obtain ⟨C2, hC2⟩ : ∃ C2 : Array Value, C2 = (sp C1.toList ((i + 1) * 3) (tbsC (l.drop i))).toArray := ⟨_, rfl⟩
  have hxl : (tbC x).length = 3 := rfl
  have hdl : (tbsC (l.drop i)).length = (l.length - i) * 3 := by rw [tbsC_len, List.length_drop]
  have hC1s : C1.size = G * 3 := by rw [hC1, List.size_toArray, sp_len (by rw [hxl, hRl]; omega), hRl]
  have hC1l : C1.toList.length = G * 3 := by rw [Array.length_toList]; exact hC1s
  have hC2s : C2.size = G * 3 := by rw [hC2, List.size_toArray, sp_len (by rw [hdl, hC1l]; omega), hC1l]
  have hcpA : ∀ W : World, W.heap = W1.heap → ∀ ty dc, (Builtin.copy_ #[51, 51] ty #[.slice (some ⟨w.heap.size, i * 3, none⟩) (l.length + 1 - i) dc, .slice (some ⟨vb, 0, none⟩) 1 1]).run Try.prog W = .ok (goInt 1) (W.setRow w.heap.size C1) := fun W hW ty dc => by
    have hv2 : Blk W vb 71 #[.string x.b, .string x.e, .int .u64 x.s] := by unfold Blk; rw [hW, ho1 _ hvw]; exact hv
    rw [hC1]
    exact run_copyW (P := Try.prog) W _ 51 ty _ 71 i0 w.heap.size (i * 3) (l.length + 1 - i) dc W.heap.size _ 1 1 1 (tbC x) ROW (0, 0) Try.underlying51 hi0 (by simp only [Nat.min_def]; split <;> omega) (by rw [hz1]; rfl) (ins_row hv2) (by rw [hW]; exact hg1) (.inl rfl) (by rw [hxl, hRs]; omega) (fun v hv => tb_one [x] v (by rw [tbsC_one, show tbsC [] = [] from rfl, List.append_nil]; exact hv))
  have hg2 := setRow_heap W1 w.heap.size ROW C1 _ (0, 0) hg1
  have hcpB : ∀ W : World, W.heap = (W1.setRow w.heap.size C1).heap → ∀ ty dc sc, (Builtin.copy_ #[51, 51] ty #[.slice (some ⟨w.heap.size, (i + 1) * 3, none⟩) (l.length - i) dc, .slice (some ⟨g, i * 3, none⟩) (l.length - i) sc]).run Try.prog W = .ok (goInt ((l.length - i : Nat) : Int)) (W.setRow w.heap.size C2) := fun W hW ty dc sc => by
    have hr := ho.rd'.cut (i * 3)
    rw [tbsC_drop l i (by omega), Nat.zero_add] at hr
    rw [hC2]
    exact run_copyW (P := Try.prog) W _ 51 ty _ 71 i0 w.heap.size ((i + 1) * 3) (l.length - i) dc w.heap.size _ (l.length - i) sc (l.length - i) (tbsC (l.drop i)) C1 (0, 0) Try.underlying51 hi0 (by simp only [Nat.min_def]; split <;> omega) (by rw [hz1]; exact hdl) (hr.of_blocks fun k hk => by rw [hW, setRow_other W1 w.heap.size k C1 (by omega), ho1 k hk]) (by rw [hW]; exact hg2) (.inl rfl) (by rw [hdl, hC1s]; omega) (tb_one _)
  have hT2 := ins_take' (x := x) hi hRT (by rw [hRl]; omega)
  have HC1 := Lib.hid hC1
  have HC2 := Lib.hid hC2
  have HT2 := Lib.hid hT2
  have HG2 := Lib.hid hg2
  have HO1 := Lib.hid ho1
  have HW1 := Lib.hid hW1w
  clear hC1 hC2 hT2 hg2 hg1 ho1 hRT hRl hRs hz3 hROW hW1 hW1w hv ho hG
  have mixed : Try.prog.follows Departure.mixedOrders = true := by kernel_rfl
  unfold maxLen at hGm
  have hz2 : ¬ ((i : Int) = (l.length : Int)) := by omega
  have hb3 : (i : Int) ≤ (l.length : Int) := by omega
  have hci : ¬ (c = i) := by omega
  have hGi : ¬ (G = i) := by omega
  have hGim : ¬ (G = i + 1) := by omega
  have hz3 : (c : Int) < (l.length : Int) + 1 := by omega
  have hw1 : IntKind.i64.wrap ((i : Int) + 1) = (i : Int) + 1 := i64_in _ (by omega)
  have hbi : (0 : Int) ≤ (i : Int) + 1 ∧ (i : Int) + 1 ≤ (l.length : Int) + 1 := by omega
  have htn : ((i : Int) + 1).toNat = i + 1 := by omega
  clear hkk hik
  go_enter Try.func26, Try.ntmps26
  go_wp2_with (first
    | (at_builtin; refine Lib.wpList_append_run _ rfl _ _ _ _ rfl _ _ rfl rfl _ _ (hrz _) ?_)
    | (at_builtin; refine wpList_copy_runI _ rfl _ _ 51 51 rfl _ _ rfl rfl (hcpA _ rfl _ _) ?_))
  go_region_law_o (refine step_copy_runI rfl _ _ 51 51 rfl (.slice (some ⟨w.heap.size, (i + 1) * 3, none⟩) (l.length - i) (G - (i + 1))) (.slice (some ⟨g, i * 3, none⟩) (l.length - i) (c - i)) (by simp [Act.eval, Act.put]) (by simp [Act.eval, Act.put]) (hcpB (W1.setRow w.heap.size C1).drew rfl 3 (G - (i + 1)) (c - i)) ?_)
  go_wp2
  go_ret
  refine ⟨G, rfl, ⟨?_, .inr ⟨w.heap.size, G, C2, (0, 0), rfl, hbase, setRow_heap _ w.heap.size C1 C2 _ (0, 0) HG2.out, .inl rfl, hGn, by unfold maxLen; omega, hC2s, ?_⟩⟩, ⟨?_, ?_, ?_, ?_, fun k hk hn => ?_⟩⟩
  · rw [List.length_append, List.length_append, tbsC_len, hdl, hxl, List.length_take]; omega
  · rw [HC2.out, HC1.out]; exact HT2.out
  · rw [HW1.out]; rfl
  · rw [HW1.out]; rfl
  · rw [HW1.out]; rfl
  · rw [HW1.out]; simp [World.setRow]
  · have hkg : k ≠ w.heap.size := by omega
    exact (setRow_other _ w.heap.size k C2 hkg).trans ((setRow_other W1 w.heap.size k C1 hkg).trans (HO1.out k hk))
end Go.Proofs.Ytodnojpolkdlmaa
