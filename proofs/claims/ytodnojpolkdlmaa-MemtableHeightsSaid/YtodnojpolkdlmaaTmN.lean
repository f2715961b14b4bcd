/-
  Add of a tombstone.
-/
import Derived.Test.YtodnojpolkdlmaaTmO
import Derived.BigRegion
import Derived.Deep.DeepCutAuto
import Derived.Deep.RegionHeld3
import Derived.Deep.DrawnRows
namespace Go.Proofs.Ytodnojpolkdlmaa
set_option linter.unusedSimpArgs false
set_option linter.unusedVariables false
open Go.RowKit Go.IntWalk
attribute [local go_sem ↓] Go.wp_at_zero Go.wp_at_succ

theorem chk_size {r : Rc} (h : chkR r = 0) : (plainV r).size ≤ 100000 ∧ r.key.size ≤ 100000 := by
  have h1 := chkR_zero h
  unfold chkR at h
  split at h
  · omega
  · split at h
    · omega
    · rename_i h2
      unfold mostR at h2
      unfold plainV
      by_cases h0 : r.k = 0
      · rw [if_pos h0]; exact ⟨Nat.zero_le _, by omega⟩
      · rw [if_neg h0]
        by_cases h3 : r.k = 1
        · rw [if_neg h0, if_pos h3] at h2; omega
        · rw [if_neg h0, if_neg h3] at h2; omega
theorem Chg.drewC {w w1 : World} {F : Nat → Prop} (h : Chg w w1 F) : Chg w w1.drew F := ⟨h.os, h.tape, h.output, h.size, h.block⟩
theorem AddP.from {w w4 w' : World} {g : Nat} {how : Int} {hl : List UInt8} {S : TS} {F H : List Nat} (hb : Below w.heap.size w w4) (hF : ∀ k ∈ F, k < w.heap.size) (h : AddP w4 g how hl S F H w') : AddP w g how hl S F H w' := by
  obtain ⟨F', h1, h2, h3⟩ := h
  exact ⟨F', h1, (Chg.below hb).trans h2, fun k hk => (h3 k hk).imp id fun h => Nat.le_trans hb.size h⟩
set_option maxHeartbeats 4000000 in
set_option maxRecDepth 100000 in
theorem mAdd_tomb_there {w : World} {g : Nat} {how : Int} {hl : List UInt8} {S : TS} {F H : List Nat} (ht : Tab w g how hl S F H) (hs : SortT how S.t) (seq : Int) (f : Int) (key v : ByteArray) (h : seq ≤ 72057594037927935) (hc : chkR ⟨f, 2, key, v⟩ = 0) (hf : S.n < 8192) (hth : thereT how S.t ⟨key, v, seq⟩ = true) :
    Calls Try.prog 9 #[.pointer (some ⟨g, 0, none⟩), .int .u64 seq, .agg #[.int .u32 f, .int .i64 2, .string key, .string v]] w fun e w' => e = .returned (.int .i64 7) ∧ Below w.heap.size w w' := by
  have HS := Lib.hid hs
  have HTH := Lib.hid hth
  clear hs hth
  have hd : decide (72057594037927935 < seq) = false := by simpa using h
  have HC := fun w => bChk_any ⟨f, 2, key, v⟩ w
  dsimp only at HC ⊢
  rw [hc] at HC
  have HCC := Lib.hid HC
  have HT := Lib.hid ht
  have hd2 : decide ((8192 : Int) ≤ (S.n : Int)) = false := by simp; omega
  have hn : S.n ≤ 1000000 := by omega
  have hblk : Blk (w.alloc (.cells #[.int .u32 f, .int .i64 2, .string key, .string v] 33)) w.heap.size 33 #[.int .u32 f, .int .i64 2, .string key, .string v] := Blk.new _ _ _
  have HBK := Lib.hid hblk
  clear h hc HC ht hblk
  go_enter Try.func9, Try.ntmps9
  go_wp2_with fail
  refine (HCC.out _).mono ?_
  rintro e w1 ⟨rfl, hb1⟩
  have HB1 := Lib.hid (((Below.refl _ w).alloc (Nat.le_refl _) _).trans (hb1.mono (by simp)))
  have HK1 := Lib.hid (HBK.out.below hb1 (by simp))
  clear hb1 HBK
  go_wp2_with fail
  refine (mLen_any (HT.out.below HB1.out) hn).mono ?_
  rintro e w2 ⟨rfl, nq, hnq⟩
  have hb2 : Below w1.heap.size w1 w2 := by rw [hnq]; exact below_drewN (Below.refl _ _) nq
  have HB2 := Lib.hid (HB1.out.trans (hb2.mono HB1.out.size))
  have HK2 := Lib.hid (HK1.out.below hb2 HK1.out.lt)
  have HT2 := Lib.hid (HT.out.below HB2.out)
  clear hb2 hnq nq HB1 HK1 HCC
  have k0 : w2.cell? ⟨w.heap.size, 0, none⟩ = some (.int .u32 f) := HK2.out.cell 0
  have k1 : w2.cell? ⟨w.heap.size, 1, none⟩ = some (.int .i64 2) := HK2.out.cell 1
  have k2 : w2.cell? ⟨w.heap.size, 2, none⟩ = some (.string key) := HK2.out.cell 2
  have k3 : w2.cell? ⟨w.heap.size, 3, none⟩ = some (.string v) := HK2.out.cell 3
  go_wp2_with fail
  have hb3 : Below w2.heap.size w2 (w2.alloc (.cells #[.string key, .string v, .int .u64 seq] 71)) := (Below.refl _ _).alloc (Nat.le_refl _) _
  have HB3 := Lib.hid (HB2.out.trans (hb3.mono HB2.out.size))
  have HK3 := Lib.hid (HK2.out.below hb3 HK2.out.lt)
  have HT3 := Lib.hid (HT2.out.below hb3)
  have HX3 := Lib.hid (Blk.new w2 71 #[.string key, .string v, .int .u64 seq])
  have hz3 : w2.heap.size < (w2.alloc (.cells #[.string key, .string v, .int .u64 seq] 71)).heap.size := by simp
  have HB2x := HB2.out.size
  clear hb3 HB2 HK2 HT2 k0 k1 k2 k3
  generalize w2.alloc (.cells #[.string key, .string v, .int .u64 seq] 71) = w3 at *
  have hxw0 := HB2x
  generalize w2.heap.size = xb at *
  obtain ⟨hb, hA, hc, tv, hu, hs, hk, hval, N, h1, h2, h3, h4, h5, h6, h7, h8⟩ := HT3.out
  obtain ⟨A, c, rfl, hc1, hc2⟩ := h5.slice_
  have hgl := h4.blk.lt
  have htn : S.t.length ≤ 1000000 := by have : S.n = S.l.length + S.t.length := rfl; omega
  have hSS : ∀ w', Below w3.heap.size w3 w' → (w'.cell? ⟨g, 8, none⟩ = some (.slice A S.t.length c) ∧ w'.cell? ⟨g, 0, none⟩ = some (.int .i64 how)) ∧ w'.cell? ⟨xb, 0, none⟩ = some (.string key) ∧ w'.cell? ⟨xb, 1, none⟩ = some (.string v) ∧ w'.cell? ⟨xb, 2, none⟩ = some (.int .u64 seq) := fun w' h' => by
    have hX := HX3.out.below h' HX3.out.lt
    have hG := h4.blk.below h' hgl
    exact ⟨⟨hG.cell 8, hG.cell 0⟩, hX.cell 0, hX.cell 1, hX.cell 2⟩
  have hBS := fun w' (h' : Below w3.heap.size w3 w') => bsT_any g how S.t A c ⟨key, v, seq⟩ w' htn (h5.rd'.next h') ((h4.blk.below h' hgl).cell 0) (Nat.lt_of_lt_of_le hgl h'.size) (HS.out.mono ⟨key, v, seq⟩)
  dsimp only at hBS
  have HSS := Lib.hid hSS
  have HBS := Lib.hid hBS
  have HN := Lib.hid (And.intro h1 (And.intro h2 (And.intro h3 (And.intro h4 (And.intro h5 (And.intro h6 (And.intro h7 h8)))))))
  clear hSS hBS h1 h2 h3 h4 h5 h6 h7 h8
  go_wp2_with fail
  refine wp_region_held_drew (S := fun w' => Below w3.heap.size w3 w') (by kernel_rfl) (Below.refl _ _).drew (fun hHeld => ?_)
  refine wpAnyH_take (i := 0) (v := ?_) rfl (by kernel_rfl) (by kernel_rfl) (by kernel_rfl) (fun _ _ _ h => h) (Or.inl ⟨by rfl, ?_⟩) (by assumption) ?_
  rotate_left
  · (intro w hSw; obtain ⟨⟨k0, k1⟩, l0, l1, l2⟩ := HSS.out w hSw; go_simp; try (with_reducible rfl))
  try simp only [Act.put, List.getElem_toArray, List.getElem_cons_succ, List.getElem_cons_zero, List.setIfInBounds_toArray, List.set_cons_zero, List.set_cons_succ]
  refine wpAnyH_take (i := 1) (v := ?_) rfl (by kernel_rfl) (by kernel_rfl) (by kernel_rfl) (fun _ _ _ h => h) (Or.inl ⟨by rfl, ?_⟩) (by assumption) ?_
  rotate_left
  · (intro w hSw; obtain ⟨⟨k0, k1⟩, l0, l1, l2⟩ := HSS.out w hSw; go_simp; try (with_reducible rfl))
  try simp only [Act.put, List.getElem_toArray, List.getElem_cons_succ, List.getElem_cons_zero, List.setIfInBounds_toArray, List.set_cons_zero, List.set_cons_succ]
  refine wpAnyH_take (i := 2) (v := ?_) rfl (by kernel_rfl) (by kernel_rfl) (by kernel_rfl) (fun _ _ _ h => h) (Or.inl ⟨by rfl, ?_⟩) (by assumption) ?_
  rotate_left
  · (intro w hSw; obtain ⟨⟨k0, k1⟩, l0, l1, l2⟩ := HSS.out w hSw; go_simp; try (with_reducible rfl))
  try simp only [Act.put, List.getElem_toArray, List.getElem_cons_succ, List.getElem_cons_zero, List.setIfInBounds_toArray, List.set_cons_zero, List.set_cons_succ]
  refine wpAnyH_take (i := 3) (v := ?_) rfl (by kernel_rfl) (by kernel_rfl) (by kernel_rfl) (fun _ _ _ h => h) (Or.inl ⟨by rfl, ?_⟩) (by assumption) ?_
  rotate_left
  · (intro w hSw; obtain ⟨⟨k0, k1⟩, l0, l1, l2⟩ := HSS.out w hSw; go_simp; try (with_reducible rfl))
  try simp only [Act.put, List.getElem_toArray, List.getElem_cons_succ, List.getElem_cons_zero, List.setIfInBounds_toArray, List.set_cons_zero, List.set_cons_succ]
  refine wpAnyH_take (i := 4) (v := ?_) rfl (by kernel_rfl) (by kernel_rfl) (by kernel_rfl) (fun _ _ _ h => h) (Or.inl ⟨by rfl, ?_⟩) (by assumption) ?_
  rotate_left
  · (intro w hSw; obtain ⟨⟨k0, k1⟩, l0, l1, l2⟩ := HSS.out w hSw; go_simp; try (with_reducible rfl))
  try simp only [Act.put, List.getElem_toArray, List.getElem_cons_succ, List.getElem_cons_zero, List.setIfInBounds_toArray, List.set_cons_zero, List.set_cons_succ]
  refine wpAnyH_take (i := 5) (v := ?_) rfl (by kernel_rfl) (by kernel_rfl) (by kernel_rfl) (fun _ _ _ h => h) (Or.inl ⟨by rfl, ?_⟩) (by assumption) ?_
  rotate_left
  · (intro w hSw; obtain ⟨⟨k0, k1⟩, l0, l1, l2⟩ := HSS.out w hSw; go_simp; try (with_reducible rfl))
  try simp only [Act.put, List.getElem_toArray, List.getElem_cons_succ, List.getElem_cons_zero, List.setIfInBounds_toArray, List.set_cons_zero, List.set_cons_succ]
  refine wpAnyH_take (i := 6) (v := ?_) rfl (by kernel_rfl) (by kernel_rfl) (by kernel_rfl) (fun _ _ _ h => h) (Or.inl ⟨by rfl, ?_⟩) (by assumption) ?_
  rotate_left
  · (intro w hSw; obtain ⟨⟨k0, k1⟩, l0, l1, l2⟩ := HSS.out w hSw; go_simp; try (with_reducible rfl))
  try simp only [Act.put, List.getElem_toArray, List.getElem_cons_succ, List.getElem_cons_zero, List.setIfInBounds_toArray, List.set_cons_zero, List.set_cons_succ]
  refine wpAnyH_ready (rs := [7]) (by kernel_rfl) (by simp) ?_
  refine AllReadyH.cons rfl (fun K hK => ?_) ?_
  · go_simp
    refine (HBS.out _ hHeld).mono ?_
    rintro e w4 ⟨rfl, hb4⟩
    have hB4 := hHeld.trans (hb4.mono hHeld.size)
    refine hK.out _ _ hB4 (fun hHeld => ?_)
    clear hb4 hB4
    clear hK K
    try simp only [Act.put, List.getElem_toArray, List.getElem_cons_succ, List.getElem_cons_zero, List.setIfInBounds_toArray, List.set_cons_zero, List.set_cons_succ]
    refine wpAnyH_take (i := 8) (v := ?_) rfl (by kernel_rfl) (by kernel_rfl) (by kernel_rfl) (fun _ _ _ h => h) (Or.inl ⟨by rfl, ?_⟩) (by assumption) ?_
    rotate_left
    · (intro w hSw; (try dsimp only at hSw); go_simp; try (with_reducible rfl))
    try simp only [Act.put, List.getElem_toArray, List.getElem_cons_succ, List.getElem_cons_zero, List.setIfInBounds_toArray, List.set_cons_zero, List.set_cons_succ]
    refine wpAnyH_take (i := 9) (v := ?_) rfl (by kernel_rfl) (by kernel_rfl) (by kernel_rfl) (fun _ _ _ h => h) (Or.inl ⟨by rfl, ?_⟩) (by assumption) ?_
    rotate_left
    · (intro w hSw; (try dsimp only at hSw); go_simp; try (with_reducible rfl))
    try simp only [Act.put, List.getElem_toArray, List.getElem_cons_succ, List.getElem_cons_zero, List.setIfInBounds_toArray, List.set_cons_zero, List.set_cons_succ]
    refine wpAnyH_take (i := 10) (v := ?_) rfl (by kernel_rfl) (by kernel_rfl) (by kernel_rfl) (fun _ _ _ h => h) (Or.inl ⟨by rfl, ?_⟩) (by assumption) ?_
    rotate_left
    · (intro w hSw; (try dsimp only at hSw); go_simp; try (with_reducible rfl))
    try simp only [Act.put, List.getElem_toArray, List.getElem_cons_succ, List.getElem_cons_zero, List.setIfInBounds_toArray, List.set_cons_zero, List.set_cons_succ]
    refine wpAnyH_take (i := 11) (v := ?_) rfl (by kernel_rfl) (by kernel_rfl) (by kernel_rfl) (fun _ _ _ h => h) (Or.inl ⟨by rfl, ?_⟩) (by assumption) ?_
    rotate_left
    · (intro w hSw; (try dsimp only at hSw); go_simp; try (with_reducible rfl))
    try simp only [Act.put, List.getElem_toArray, List.getElem_cons_succ, List.getElem_cons_zero, List.setIfInBounds_toArray, List.set_cons_zero, List.set_cons_succ]
    refine wpAnyH_take (i := 12) (v := ?_) rfl (by kernel_rfl) (by kernel_rfl) (by kernel_rfl) (fun _ _ _ h => h) (Or.inl ⟨by rfl, ?_⟩) (by assumption) ?_
    rotate_left
    · (intro w hSw; (try dsimp only at hSw); go_simp; try (with_reducible rfl))
    try simp only [Act.put, List.getElem_toArray, List.getElem_cons_succ, List.getElem_cons_zero, List.setIfInBounds_toArray, List.set_cons_zero, List.set_cons_succ]
    refine wpAnyH_done (by kernel_rfl) ?_ _
    rw [HTH.out]
    go_wp2_with fail
    go_ret
    exact ⟨rfl, HB3.out.trans (hHeld.mono HB3.out.size)⟩
  exact AllReadyH.nil
set_option maxHeartbeats 4000000 in
set_option maxRecDepth 100000 in
theorem mAdd_tomb_new {w : World} {g : Nat} {how : Int} {hl : List UInt8} {S : TS} {F H : List Nat} (ht : Tab w g how hl S F H) (hH : ∀ k ∈ H, k < w.heap.size) (hs : SortT how S.t) (seq : Int) (f : Int) (key v : ByteArray) (h : seq ≤ 72057594037927935) (hc : chkR ⟨f, 2, key, v⟩ = 0) (hf : S.n < 8192) (hth : thereT how S.t ⟨key, v, seq⟩ = false) :
    Calls Try.prog 9 #[.pointer (some ⟨g, 0, none⟩), .int .u64 seq, .agg #[.int .u32 f, .int .i64 2, .string key, .string v]] w fun e w' => e = .returned (.int .i64 0) ∧
      AddP w g how hl ({ S with t := insL S.t (posT how S.t ⟨key, v, seq⟩) ⟨key, v, seq⟩ }.fin seq key.size v.size) F H w' := by
  have HS := Lib.hid hs
  have HTH := Lib.hid hth
  have HHH := Lib.hid hH
  clear hs hth hH
  have hvk := chk_size hc
  have hd : decide (72057594037927935 < seq) = false := by simpa using h
  have HC := fun w => bChk_any ⟨f, 2, key, v⟩ w
  dsimp only at HC ⊢
  rw [hc] at HC
  have HCC := Lib.hid HC
  have HT := Lib.hid ht
  have hd2 : decide ((8192 : Int) ≤ (S.n : Int)) = false := by simp; omega
  have hn : S.n ≤ 1000000 := by omega
  have hblk : Blk (w.alloc (.cells #[.int .u32 f, .int .i64 2, .string key, .string v] 33)) w.heap.size 33 #[.int .u32 f, .int .i64 2, .string key, .string v] := Blk.new _ _ _
  have HBK := Lib.hid hblk
  clear h hc HC ht hblk
  go_enter Try.func9, Try.ntmps9
  go_wp2_with fail
  refine (HCC.out _).mono ?_
  rintro e w1 ⟨rfl, hb1⟩
  have HB1 := Lib.hid (((Below.refl _ w).alloc (Nat.le_refl _) _).trans (hb1.mono (by simp)))
  have HK1 := Lib.hid (HBK.out.below hb1 (by simp))
  clear hb1 HBK
  go_wp2_with fail
  refine (mLen_any (HT.out.below HB1.out) hn).mono ?_
  rintro e w2 ⟨rfl, nq, hnq⟩
  have hb2 : Below w1.heap.size w1 w2 := by rw [hnq]; exact below_drewN (Below.refl _ _) nq
  have HB2 := Lib.hid (HB1.out.trans (hb2.mono HB1.out.size))
  have HK2 := Lib.hid (HK1.out.below hb2 HK1.out.lt)
  have HT2 := Lib.hid (HT.out.below HB2.out)
  clear hb2 hnq nq HB1 HK1 HCC
  have k0 : w2.cell? ⟨w.heap.size, 0, none⟩ = some (.int .u32 f) := HK2.out.cell 0
  have k1 : w2.cell? ⟨w.heap.size, 1, none⟩ = some (.int .i64 2) := HK2.out.cell 1
  have k2 : w2.cell? ⟨w.heap.size, 2, none⟩ = some (.string key) := HK2.out.cell 2
  have k3 : w2.cell? ⟨w.heap.size, 3, none⟩ = some (.string v) := HK2.out.cell 3
  go_wp2_with fail
  have hb3 : Below w2.heap.size w2 (w2.alloc (.cells #[.string key, .string v, .int .u64 seq] 71)) := (Below.refl _ _).alloc (Nat.le_refl _) _
  have HB3 := Lib.hid (HB2.out.trans (hb3.mono HB2.out.size))
  have HK3 := Lib.hid (HK2.out.below hb3 HK2.out.lt)
  have HT3 := Lib.hid (HT2.out.below hb3)
  have HX3 := Lib.hid (Blk.new w2 71 #[.string key, .string v, .int .u64 seq])
  have hz3 : w2.heap.size < (w2.alloc (.cells #[.string key, .string v, .int .u64 seq] 71)).heap.size := by simp
  have HB2x := HB2.out.size
  clear hb3 HB2 HK2 HT2 k0 k1 k2 k3
  generalize w2.alloc (.cells #[.string key, .string v, .int .u64 seq] 71) = w3 at *
  have hxw0 := HB2x
  generalize w2.heap.size = xb at *
  obtain ⟨hb, hA, hc, tv, hu, hs, hk, hval, N, h1, h2, h3, h4, h5, h6, h7, h8⟩ := HT3.out
  obtain ⟨A, c, rfl, hc1, hc2⟩ := h5.slice_
  have hgl := h4.blk.lt
  have htn : S.t.length ≤ 1000000 := by have : S.n = S.l.length + S.t.length := rfl; omega
  have hSS : ∀ w', Below w3.heap.size w3 w' → (w'.cell? ⟨g, 8, none⟩ = some (.slice A S.t.length c) ∧ w'.cell? ⟨g, 0, none⟩ = some (.int .i64 how)) ∧ w'.cell? ⟨xb, 0, none⟩ = some (.string key) ∧ w'.cell? ⟨xb, 1, none⟩ = some (.string v) ∧ w'.cell? ⟨xb, 2, none⟩ = some (.int .u64 seq) := fun w' h' => by
    have hX := HX3.out.below h' HX3.out.lt
    have hG := h4.blk.below h' hgl
    exact ⟨⟨hG.cell 8, hG.cell 0⟩, hX.cell 0, hX.cell 1, hX.cell 2⟩
  have hBS := fun w' (h' : Below w3.heap.size w3 w') => bsT_any g how S.t A c ⟨key, v, seq⟩ w' htn (h5.rd'.next h') ((h4.blk.below h' hgl).cell 0) (Nat.lt_of_lt_of_le hgl h'.size) (HS.out.mono ⟨key, v, seq⟩)
  dsimp only at hBS
  have HSS := Lib.hid hSS
  have HBS := Lib.hid hBS
  have HN := Lib.hid (And.intro h1 (And.intro h2 (And.intro h3 (And.intro h4 (And.intro h5 (And.intro h6 (And.intro h7 h8)))))))
  clear hSS hBS h1 h2 h3 h4 h5 h6 h7 h8
  go_wp2_with fail
  refine wp_region_held_drew (S := fun w' => Below w3.heap.size w3 w') (by kernel_rfl) (Below.refl _ _).drew (fun hHeld => ?_)
  refine wpAnyH_take (i := 0) (v := ?_) rfl (by kernel_rfl) (by kernel_rfl) (by kernel_rfl) (fun _ _ _ h => h) (Or.inl ⟨by rfl, ?_⟩) (by assumption) ?_
  rotate_left
  · (intro w hSw; obtain ⟨⟨k0, k1⟩, l0, l1, l2⟩ := HSS.out w hSw; go_simp; try (with_reducible rfl))
  try simp only [Act.put, List.getElem_toArray, List.getElem_cons_succ, List.getElem_cons_zero, List.setIfInBounds_toArray, List.set_cons_zero, List.set_cons_succ]
  refine wpAnyH_take (i := 1) (v := ?_) rfl (by kernel_rfl) (by kernel_rfl) (by kernel_rfl) (fun _ _ _ h => h) (Or.inl ⟨by rfl, ?_⟩) (by assumption) ?_
  rotate_left
  · (intro w hSw; obtain ⟨⟨k0, k1⟩, l0, l1, l2⟩ := HSS.out w hSw; go_simp; try (with_reducible rfl))
  try simp only [Act.put, List.getElem_toArray, List.getElem_cons_succ, List.getElem_cons_zero, List.setIfInBounds_toArray, List.set_cons_zero, List.set_cons_succ]
  refine wpAnyH_take (i := 2) (v := ?_) rfl (by kernel_rfl) (by kernel_rfl) (by kernel_rfl) (fun _ _ _ h => h) (Or.inl ⟨by rfl, ?_⟩) (by assumption) ?_
  rotate_left
  · (intro w hSw; obtain ⟨⟨k0, k1⟩, l0, l1, l2⟩ := HSS.out w hSw; go_simp; try (with_reducible rfl))
  try simp only [Act.put, List.getElem_toArray, List.getElem_cons_succ, List.getElem_cons_zero, List.setIfInBounds_toArray, List.set_cons_zero, List.set_cons_succ]
  refine wpAnyH_take (i := 3) (v := ?_) rfl (by kernel_rfl) (by kernel_rfl) (by kernel_rfl) (fun _ _ _ h => h) (Or.inl ⟨by rfl, ?_⟩) (by assumption) ?_
  rotate_left
  · (intro w hSw; obtain ⟨⟨k0, k1⟩, l0, l1, l2⟩ := HSS.out w hSw; go_simp; try (with_reducible rfl))
  try simp only [Act.put, List.getElem_toArray, List.getElem_cons_succ, List.getElem_cons_zero, List.setIfInBounds_toArray, List.set_cons_zero, List.set_cons_succ]
  refine wpAnyH_take (i := 4) (v := ?_) rfl (by kernel_rfl) (by kernel_rfl) (by kernel_rfl) (fun _ _ _ h => h) (Or.inl ⟨by rfl, ?_⟩) (by assumption) ?_
  rotate_left
  · (intro w hSw; obtain ⟨⟨k0, k1⟩, l0, l1, l2⟩ := HSS.out w hSw; go_simp; try (with_reducible rfl))
  try simp only [Act.put, List.getElem_toArray, List.getElem_cons_succ, List.getElem_cons_zero, List.setIfInBounds_toArray, List.set_cons_zero, List.set_cons_succ]
  refine wpAnyH_take (i := 5) (v := ?_) rfl (by kernel_rfl) (by kernel_rfl) (by kernel_rfl) (fun _ _ _ h => h) (Or.inl ⟨by rfl, ?_⟩) (by assumption) ?_
  rotate_left
  · (intro w hSw; obtain ⟨⟨k0, k1⟩, l0, l1, l2⟩ := HSS.out w hSw; go_simp; try (with_reducible rfl))
  try simp only [Act.put, List.getElem_toArray, List.getElem_cons_succ, List.getElem_cons_zero, List.setIfInBounds_toArray, List.set_cons_zero, List.set_cons_succ]
  refine wpAnyH_take (i := 6) (v := ?_) rfl (by kernel_rfl) (by kernel_rfl) (by kernel_rfl) (fun _ _ _ h => h) (Or.inl ⟨by rfl, ?_⟩) (by assumption) ?_
  rotate_left
  · (intro w hSw; obtain ⟨⟨k0, k1⟩, l0, l1, l2⟩ := HSS.out w hSw; go_simp; try (with_reducible rfl))
  try simp only [Act.put, List.getElem_toArray, List.getElem_cons_succ, List.getElem_cons_zero, List.setIfInBounds_toArray, List.set_cons_zero, List.set_cons_succ]
  refine wpAnyH_ready (rs := [7]) (by kernel_rfl) (by simp) ?_
  refine AllReadyH.cons rfl (fun K hK => ?_) ?_
  · go_simp
    refine (HBS.out _ hHeld).mono ?_
    rintro e w4 ⟨rfl, hb4⟩
    have hB4 := hHeld.trans (hb4.mono hHeld.size)
    refine hK.out _ _ hB4 (fun hHeld => ?_)
    clear hb4 hB4
    clear hK K
    try simp only [Act.put, List.getElem_toArray, List.getElem_cons_succ, List.getElem_cons_zero, List.setIfInBounds_toArray, List.set_cons_zero, List.set_cons_succ]
    refine wpAnyH_take (i := 8) (v := ?_) rfl (by kernel_rfl) (by kernel_rfl) (by kernel_rfl) (fun _ _ _ h => h) (Or.inl ⟨by rfl, ?_⟩) (by assumption) ?_
    rotate_left
    · (intro w hSw; (try dsimp only at hSw); go_simp; try (with_reducible rfl))
    try simp only [Act.put, List.getElem_toArray, List.getElem_cons_succ, List.getElem_cons_zero, List.setIfInBounds_toArray, List.set_cons_zero, List.set_cons_succ]
    refine wpAnyH_take (i := 9) (v := ?_) rfl (by kernel_rfl) (by kernel_rfl) (by kernel_rfl) (fun _ _ _ h => h) (Or.inl ⟨by rfl, ?_⟩) (by assumption) ?_
    rotate_left
    · (intro w hSw; (try dsimp only at hSw); go_simp; try (with_reducible rfl))
    try simp only [Act.put, List.getElem_toArray, List.getElem_cons_succ, List.getElem_cons_zero, List.setIfInBounds_toArray, List.set_cons_zero, List.set_cons_succ]
    refine wpAnyH_take (i := 10) (v := ?_) rfl (by kernel_rfl) (by kernel_rfl) (by kernel_rfl) (fun _ _ _ h => h) (Or.inl ⟨by rfl, ?_⟩) (by assumption) ?_
    rotate_left
    · (intro w hSw; (try dsimp only at hSw); go_simp; try (with_reducible rfl))
    try simp only [Act.put, List.getElem_toArray, List.getElem_cons_succ, List.getElem_cons_zero, List.setIfInBounds_toArray, List.set_cons_zero, List.set_cons_succ]
    refine wpAnyH_take (i := 11) (v := ?_) rfl (by kernel_rfl) (by kernel_rfl) (by kernel_rfl) (fun _ _ _ h => h) (Or.inl ⟨by rfl, ?_⟩) (by assumption) ?_
    rotate_left
    · (intro w hSw; (try dsimp only at hSw); go_simp; try (with_reducible rfl))
    try simp only [Act.put, List.getElem_toArray, List.getElem_cons_succ, List.getElem_cons_zero, List.setIfInBounds_toArray, List.set_cons_zero, List.set_cons_succ]
    refine wpAnyH_take (i := 12) (v := ?_) rfl (by kernel_rfl) (by kernel_rfl) (by kernel_rfl) (fun _ _ _ h => h) (Or.inl ⟨by rfl, ?_⟩) (by assumption) ?_
    rotate_left
    · (intro w hSw; (try dsimp only at hSw); go_simp; try (with_reducible rfl))
    try simp only [Act.put, List.getElem_toArray, List.getElem_cons_succ, List.getElem_cons_zero, List.setIfInBounds_toArray, List.set_cons_zero, List.set_cons_succ]
    refine wpAnyH_done (by kernel_rfl) ?_ _
    rw [HTH.out]
    have HP3 : Hid (TabP w3 g how hl S F H hb hA hc (.slice A S.t.length c) hu hs hk hval N) := ⟨HN.out.1, HN.out.2.1, HN.out.2.2.1, HN.out.2.2.2.1, HN.out.2.2.2.2.1, HN.out.2.2.2.2.2.1, HN.out.2.2.2.2.2.2.1, HN.out.2.2.2.2.2.2.2⟩
    have hxl := HX3.out.lt
    have hkl := HK3.out.lt
    have HP5 := Lib.hid (HP3.out.below hHeld)
    have HK5 := Lib.hid (HK3.out.below hHeld hkl)
    have HX5 := Lib.hid (HX3.out.below hHeld hxl)
    have HB5 := Lib.hid (HB3.out.trans (hHeld.mono HB3.out.size))
    have hpl := posT_le how S.t ⟨key, v, seq⟩
    have hgl5 := HP5.out.lt g HP5.out.gF
    obtain ⟨pos, hpos⟩ : ∃ p, p = posT how S.t ⟨key, v, seq⟩ := ⟨_, rfl⟩
    rw [← hpos] at hpl ⊢
    have HPOS := Lib.hid hpos
    clear hpos
    clear hHeld HP3 HN HSS HBS HT3 HK3 HX3 HB3 hxl hkl hgl
    have c8 : w4.cell? ⟨g, 8, none⟩ = some (.slice A S.t.length c) := HP5.out.tbl.blk.cell 8
    have xx0 : w4.cell? ⟨xb, 0, none⟩ = some (.string key) := HX5.out.cell 0
    have xx1 : w4.cell? ⟨xb, 1, none⟩ = some (.string v) := HX5.out.cell 1
    have xx2 : w4.cell? ⟨xb, 2, none⟩ = some (.int .u64 seq) := HX5.out.cell 2
    have hb6 : Below w4.heap.size w4 (w4.drew.alloc (.cells #[.string key, .string v, .int .u64 seq] 71)) := ((Below.refl _ _).drew).alloc (Nat.le_refl _) _
    have HP6 := Lib.hid (HP5.out.below hb6)
    have HK6 := Lib.hid (HK5.out.below hb6 HK5.out.lt)
    have HX6 := Lib.hid (HX5.out.below hb6 HX5.out.lt)
    have HB6 := Lib.hid (HB5.out.trans (hb6.mono HB5.out.size))
    have hkl6 := HK5.out.lt
    have hxl6 := HX5.out.lt
    have hin := insT_any (.slice A S.t.length c) pos S.t ⟨key, v, seq⟩ w4.heap.size 0 (w4.drew.alloc (.cells #[.string key, .string v, .int .u64 seq] 71)) htn hpl HP6.out.own (Blk.new w4.drew _ _) (fun e => by have := HP5.out.lt _ (HP5.out.tvF _ e).1; omega) (Nat.zero_le _)
    have HIN := Lib.hid hin
    have xy0 : (w4.drew.alloc (.cells #[.string key, .string v, .int .u64 seq] 71)).cell? ⟨xb, 0, none⟩ = some (.string key) := HX6.out.cell 0
    have xy1 : (w4.drew.alloc (.cells #[.string key, .string v, .int .u64 seq] 71)).cell? ⟨xb, 1, none⟩ = some (.string v) := HX6.out.cell 1
    have xy2 : (w4.drew.alloc (.cells #[.string key, .string v, .int .u64 seq] 71)).cell? ⟨xb, 2, none⟩ = some (.int .u64 seq) := HX6.out.cell 2
    have cy8 : (w4.drew.alloc (.cells #[.string key, .string v, .int .u64 seq] 71)).cell? ⟨g, 8, none⟩ = some (.slice A S.t.length c) := HP6.out.tbl.blk.cell 8
    have HXY := Lib.hid (And.intro xy0 (And.intro xy1 xy2))
    clear hin hb6 xy0 xy1 xy2
    have HLF : Hid (∀ k ∈ F, k < w.heap.size) := HT.out.lt
    have hxw : w.heap.size ≤ xb := hxw0
    go_upto_region 15 with fail
    go_cut [] (fun wx => Hid (AddP w g how hl { S with t := insL S.t pos ⟨key, v, seq⟩ } F H wx) ∧ Hid (Blk wx w.heap.size 33 #[.int .u32 f, .int .i64 2, .string key, .string v]))
    case first =>
      refine wp_region_held_drew (S := fun w' => w'.cell? ⟨xb, 0, none⟩ = some (.string key) ∧ w'.cell? ⟨xb, 1, none⟩ = some (.string v) ∧ w'.cell? ⟨xb, 2, none⟩ = some (.int .u64 seq)) (by kernel_rfl) ⟨xx0, xx1, xx2⟩ (fun hHeld => ?_)
      clear xx0 xx1 xx2
      refine wpAnyH_take (i := 0) (v := ?_) rfl (by kernel_rfl) (by kernel_rfl) (by kernel_rfl) (fun _ _ _ h => h) (Or.inl ⟨by rfl, ?_⟩) (by assumption) ?_
      rotate_left
      · (intro w hSw; obtain ⟨l0, l1, l2⟩ := hSw; go_simp; try (with_reducible rfl))
      try simp only [Act.put, List.getElem_toArray, List.getElem_cons_succ, List.getElem_cons_zero, List.setIfInBounds_toArray, List.set_cons_zero, List.set_cons_succ]
      refine wpAnyH_take (i := 1) (v := ?_) rfl (by kernel_rfl) (by kernel_rfl) (by kernel_rfl) (fun _ _ _ h => h) (Or.inl ⟨by rfl, ?_⟩) (by assumption) ?_
      rotate_left
      · (intro w hSw; obtain ⟨l0, l1, l2⟩ := hSw; go_simp; try (with_reducible rfl))
      try simp only [Act.put, List.getElem_toArray, List.getElem_cons_succ, List.getElem_cons_zero, List.setIfInBounds_toArray, List.set_cons_zero, List.set_cons_succ]
      refine wpAnyH_take (i := 2) (v := ?_) rfl (by kernel_rfl) (by kernel_rfl) (by kernel_rfl) (fun _ _ _ h => h) (Or.inl ⟨by rfl, ?_⟩) (by assumption) ?_
      rotate_left
      · (intro w hSw; obtain ⟨l0, l1, l2⟩ := hSw; go_simp; try (with_reducible rfl))
      try simp only [Act.put, List.getElem_toArray, List.getElem_cons_succ, List.getElem_cons_zero, List.setIfInBounds_toArray, List.set_cons_zero, List.set_cons_succ]
      refine wpAnyH_take (i := 3) (v := ?_) rfl (by kernel_rfl) (by kernel_rfl) (by kernel_rfl) (fun _ _ _ h => h) (Or.inl ⟨by rfl, ?_⟩) (by assumption) ?_
      rotate_left
      · (intro w hSw; obtain ⟨l0, l1, l2⟩ := hSw; go_simp; try (with_reducible rfl))
      try simp only [Act.put, List.getElem_toArray, List.getElem_cons_succ, List.getElem_cons_zero, List.setIfInBounds_toArray, List.set_cons_zero, List.set_cons_succ]
      refine wpAnyH_take (i := 5) (v := ?_) rfl (by kernel_rfl) (by kernel_rfl) (by kernel_rfl) (fun _ _ _ h => h) (Or.inl ⟨by rfl, ?_⟩) (by assumption) ?_
      rotate_left
      · (intro w hSw; obtain ⟨l0, l1, l2⟩ := hSw; go_simp; try (with_reducible rfl))
      try simp only [Act.put, List.getElem_toArray, List.getElem_cons_succ, List.getElem_cons_zero, List.setIfInBounds_toArray, List.set_cons_zero, List.set_cons_succ]
      refine wpAnyH_take (i := 6) (v := ?_) rfl (by kernel_rfl) (by kernel_rfl) (by kernel_rfl) (fun _ _ _ h => h) (Or.inl ⟨by rfl, ?_⟩) (by assumption) ?_
      rotate_left
      · (intro w hSw; obtain ⟨l0, l1, l2⟩ := hSw; go_simp; try (with_reducible rfl))
      try simp only [Act.put, List.getElem_toArray, List.getElem_cons_succ, List.getElem_cons_zero, List.setIfInBounds_toArray, List.set_cons_zero, List.set_cons_succ]
      refine wpAnyH_ready (rs := [4, 7]) (by kernel_rfl) (by simp) ?_
      refine AllReadyH.cons rfl (fun K hK => ?_) ?_
      · go_simp
        refine hK.out _ _ hHeld (fun hHeld => ?_)
        clear hK K
        try simp only [Act.put, List.getElem_toArray, List.getElem_cons_succ, List.getElem_cons_zero, List.setIfInBounds_toArray, List.set_cons_zero, List.set_cons_succ]
        refine wpAnyH_ready (rs := [7]) (by kernel_rfl) (by simp) ?_
        refine AllReadyH.cons rfl (fun K hK => ?_) ?_
        · go_simp
          refine hK.out _ _ HXY.out (fun hHeld => ?_)
          clear hK K
          try simp only [Act.put, List.getElem_toArray, List.getElem_cons_succ, List.getElem_cons_zero, List.setIfInBounds_toArray, List.set_cons_zero, List.set_cons_succ]
          refine wpAnyH_ready (rs := [8]) (by kernel_rfl) (by simp) ?_
          refine AllReadyH.cons rfl (fun K hK => ?_) ?_
          · go_simp
            refine HIN.out.mono ?_
            rintro e w7 ⟨v', rfl, ho7, hc7, hv7⟩
            obtain ⟨A7, c7, rfl, -⟩ := ho7.slice_
            have hxb : ∀ k, w.heap.size ≤ k → k < w4.heap.size → w7.heap[k]? = (w4.drew.alloc (.cells #[.string key, .string v, .int .u64 seq] 71)).heap[k]? := fun k hk1 hk2 => hc7.block k (by simp; omega) (fun e => by have := HP5.out.tvF k e; have := HLF.out k this.1; omega)
            have HX7 : Hid (Blk w7 xb 71 #[.string key, .string v, .int .u64 seq]) := (hxb xb hxw hxl6).trans HX6.out
            have HK7 : Hid (Blk w7 w.heap.size 33 #[.int .u32 f, .int .i64 2, .string key, .string v]) := (hxb w.heap.size (Nat.le_refl _) hkl6).trans HK6.out
            have hg7 : Blk w7 g 68 _ := (hc7.block g (by simp; omega) (fun e => (HP5.out.tvF g e).2.1 rfl)).trans HP6.out.tbl.blk
            have f8 := hg7.frozen 8
            have c8 := hg7.cell 8
            simp only [List.getElem?_toArray, List.getElem?_cons_zero, List.getElem?_cons_succ] at c8
            have HA7 := Lib.hid (HP6.out.putT (fun k hk => Nat.lt_of_lt_of_le (HHH.out k hk) HB6.out.size) hc7 (by rw [insL_len _ _ _ hpl]; exact ho7) hv7)
            have HB7 : Hid (Chg w w7 (fun k => k ∈ F)) := (Chg.below HB6.out).trans (hc7.more fun k _ hk => (HP5.out.tvF k hk).1)
            clear ho7 hc7 hv7 hg7 hxb cy8
            refine hK.out _ _ ⟨HX7.out.cell 0, HX7.out.cell 1, HX7.out.cell 2⟩ (fun hHeld => ?_)
            clear hK K
            try simp only [Act.put, List.getElem_toArray, List.getElem_cons_succ, List.getElem_cons_zero, List.setIfInBounds_toArray, List.set_cons_zero, List.set_cons_succ]
            refine wpAnyH_take (i := 9) (v := ?_) rfl (by kernel_rfl) (by kernel_rfl) (by kernel_rfl) (fun _ _ _ h => h) (Or.inl ⟨by rfl, ?_⟩) (by assumption) ?_
            rotate_left
            · (intro w hSw; (try dsimp only at hSw); go_simp; try (with_reducible rfl))
            try simp only [Act.put, List.getElem_toArray, List.getElem_cons_succ, List.getElem_cons_zero, List.setIfInBounds_toArray, List.set_cons_zero, List.set_cons_succ]
            refine wpAnyH_take (i := 10) (v := ?_) rfl (by kernel_rfl) (by kernel_rfl) (by kernel_rfl) (fun _ _ _ h => h) (Or.inl ⟨by rfl, ?_⟩) (by assumption) ?_
            rotate_left
            · (intro w hSw; (try dsimp only at hSw); go_simp; try (with_reducible rfl))
            try simp only [Act.put, List.getElem_toArray, List.getElem_cons_succ, List.getElem_cons_zero, List.setIfInBounds_toArray, List.set_cons_zero, List.set_cons_succ]
            refine wpAnyH_ready (rs := [11]) (by kernel_rfl) (by simp) ?_
            refine AllReadyH.cons rfl (fun K hK => ?_) ?_
            · go_simp
              have hgx : g ≠ xb := fun e => by have := HLF.out g HP5.out.gF; omega
              have hX8 := HX7.out.far (p := ⟨g, 8, none⟩) (Ne.symm hgx) (.slice A7 (S.t.length + 1) c7)
              refine hK.out _ _ ⟨hX8.cell 0, hX8.cell 1, hX8.cell 2⟩ (fun hHeld => ?_)
              clear hK K
              try simp only [Act.put, List.getElem_toArray, List.getElem_cons_succ, List.getElem_cons_zero, List.setIfInBounds_toArray, List.set_cons_zero, List.set_cons_succ]
              refine wpAnyH_done (by kernel_rfl) ?_ _
              go_wp2_with fail
              go_meet
              exact ⟨(AddP.from HB6.out (fun k hk => HLF.out k hk) HA7.out), HK7.out.far (p := ⟨g, 8, none⟩) (fun e => by have := HLF.out g HP5.out.gF; have e : w.heap.size = g := e; omega) _⟩
            exact AllReadyH.nil
          exact AllReadyH.nil
        exact AllReadyH.nil
      refine AllReadyH.cons rfl (fun K hK => ?_) ?_
      · go_simp
        refine hK.out _ _ HXY.out (fun hHeld => ?_)
        clear hK K
        try simp only [Act.put, List.getElem_toArray, List.getElem_cons_succ, List.getElem_cons_zero, List.setIfInBounds_toArray, List.set_cons_zero, List.set_cons_succ]
        refine wpAnyH_ready (rs := [4]) (by kernel_rfl) (by simp) ?_
        refine AllReadyH.cons rfl (fun K hK => ?_) ?_
        · go_simp
          refine hK.out _ _ hHeld (fun hHeld => ?_)
          clear hK K
          try simp only [Act.put, List.getElem_toArray, List.getElem_cons_succ, List.getElem_cons_zero, List.setIfInBounds_toArray, List.set_cons_zero, List.set_cons_succ]
          refine wpAnyH_ready (rs := [8]) (by kernel_rfl) (by simp) ?_
          refine AllReadyH.cons rfl (fun K hK => ?_) ?_
          · go_simp
            refine HIN.out.mono ?_
            rintro e w7 ⟨v', rfl, ho7, hc7, hv7⟩
            obtain ⟨A7, c7, rfl, -⟩ := ho7.slice_
            have hxb : ∀ k, w.heap.size ≤ k → k < w4.heap.size → w7.heap[k]? = (w4.drew.alloc (.cells #[.string key, .string v, .int .u64 seq] 71)).heap[k]? := fun k hk1 hk2 => hc7.block k (by simp; omega) (fun e => by have := HP5.out.tvF k e; have := HLF.out k this.1; omega)
            have HX7 : Hid (Blk w7 xb 71 #[.string key, .string v, .int .u64 seq]) := (hxb xb hxw hxl6).trans HX6.out
            have HK7 : Hid (Blk w7 w.heap.size 33 #[.int .u32 f, .int .i64 2, .string key, .string v]) := (hxb w.heap.size (Nat.le_refl _) hkl6).trans HK6.out
            have hg7 : Blk w7 g 68 _ := (hc7.block g (by simp; omega) (fun e => (HP5.out.tvF g e).2.1 rfl)).trans HP6.out.tbl.blk
            have f8 := hg7.frozen 8
            have c8 := hg7.cell 8
            simp only [List.getElem?_toArray, List.getElem?_cons_zero, List.getElem?_cons_succ] at c8
            have HA7 := Lib.hid (HP6.out.putT (fun k hk => Nat.lt_of_lt_of_le (HHH.out k hk) HB6.out.size) hc7 (by rw [insL_len _ _ _ hpl]; exact ho7) hv7)
            have HB7 : Hid (Chg w w7 (fun k => k ∈ F)) := (Chg.below HB6.out).trans (hc7.more fun k _ hk => (HP5.out.tvF k hk).1)
            clear ho7 hc7 hv7 hg7 hxb cy8
            refine hK.out _ _ ⟨HX7.out.cell 0, HX7.out.cell 1, HX7.out.cell 2⟩ (fun hHeld => ?_)
            clear hK K
            try simp only [Act.put, List.getElem_toArray, List.getElem_cons_succ, List.getElem_cons_zero, List.setIfInBounds_toArray, List.set_cons_zero, List.set_cons_succ]
            refine wpAnyH_take (i := 9) (v := ?_) rfl (by kernel_rfl) (by kernel_rfl) (by kernel_rfl) (fun _ _ _ h => h) (Or.inl ⟨by rfl, ?_⟩) (by assumption) ?_
            rotate_left
            · (intro w hSw; (try dsimp only at hSw); go_simp; try (with_reducible rfl))
            try simp only [Act.put, List.getElem_toArray, List.getElem_cons_succ, List.getElem_cons_zero, List.setIfInBounds_toArray, List.set_cons_zero, List.set_cons_succ]
            refine wpAnyH_take (i := 10) (v := ?_) rfl (by kernel_rfl) (by kernel_rfl) (by kernel_rfl) (fun _ _ _ h => h) (Or.inl ⟨by rfl, ?_⟩) (by assumption) ?_
            rotate_left
            · (intro w hSw; (try dsimp only at hSw); go_simp; try (with_reducible rfl))
            try simp only [Act.put, List.getElem_toArray, List.getElem_cons_succ, List.getElem_cons_zero, List.setIfInBounds_toArray, List.set_cons_zero, List.set_cons_succ]
            refine wpAnyH_ready (rs := [11]) (by kernel_rfl) (by simp) ?_
            refine AllReadyH.cons rfl (fun K hK => ?_) ?_
            · go_simp
              have hgx : g ≠ xb := fun e => by have := HLF.out g HP5.out.gF; omega
              have hX8 := HX7.out.far (p := ⟨g, 8, none⟩) (Ne.symm hgx) (.slice A7 (S.t.length + 1) c7)
              refine hK.out _ _ ⟨hX8.cell 0, hX8.cell 1, hX8.cell 2⟩ (fun hHeld => ?_)
              clear hK K
              try simp only [Act.put, List.getElem_toArray, List.getElem_cons_succ, List.getElem_cons_zero, List.setIfInBounds_toArray, List.set_cons_zero, List.set_cons_succ]
              refine wpAnyH_done (by kernel_rfl) ?_ _
              go_wp2_with fail
              go_meet
              exact ⟨(AddP.from HB6.out (fun k hk => HLF.out k hk) HA7.out), HK7.out.far (p := ⟨g, 8, none⟩) (fun e => by have := HLF.out g HP5.out.gF; have e : w.heap.size = g := e; omega) _⟩
            exact AllReadyH.nil
          exact AllReadyH.nil
        exact AllReadyH.nil
      exact AllReadyH.nil
    case rest =>
      obtain ⟨HA, HK⟩ := hcut
      have hn1 : S.n + 1 = ({ S with t := insL S.t pos ⟨key, v, seq⟩ } : TS).n := by
        show S.l.length + S.t.length + 1 = S.l.length + (insL S.t pos _).length
        rw [insL_len _ _ _ hpl]; omega
      have hv1 : v.size ≤ 100000 ∧ key.size ≤ 100000 := hvk
      have hgw : g < w.heap.size := HLF.out g HP5.out.gF
      have hgF0 := HP5.out.gF
      clear HXY HIN HX6 HK6 HB6 HP6 HX5 HK5 HB5 HP5 xx0 xx1 xx2 c8 cy8 hkl6 hxl6 hxw hvk
      clear hgl5 hc1 hc2
      obtain ⟨S1, hS1⟩ : ∃ S1 : TS, S1 = { S with t := insL S.t pos ⟨key, v, seq⟩ } := ⟨_, rfl⟩
      rw [← hS1] at HA hn1
      rw [HPOS.out] at hS1
      have HS1 := Lib.hid hS1
      clear hS1
      obtain ⟨F1, ht1, hcg1, hF1⟩ := HA.out
      obtain ⟨hb, hA, hc, tv, hu, hs, hk, hval, N, hp1⟩ := ht1.parts
      have HP := Lib.hid hp1
      have HCG := Lib.hid hcg1
      have HF1 := Lib.hid hF1
      have c9 : wc.cell? ⟨g, 9, none⟩ = some (.int .i64 S1.size) := hp1.tbl.blk.cell 9
      have f9 := hp1.tbl.blk.frozen 9
      have r2 : wc.cell? ⟨w.heap.size, 2, none⟩ = some (.string key) := HK.out.cell 2
      have r3 : wc.cell? ⟨w.heap.size, 3, none⟩ = some (.string v) := HK.out.cell 3
      clear ht1 hcg1 hF1 hp1 HA
      go_wp2_with fail
      refine wp_region_held_drew (S := fun w' => w'.cell? ⟨w.heap.size, 2, none⟩ = some (.string key) ∧ w'.cell? ⟨w.heap.size, 3, none⟩ = some (.string v)) (by kernel_rfl) ⟨r2, r3⟩ (fun hHeld => ?_)
      refine wpAnyH_take (i := 0) (v := ?_) rfl (by kernel_rfl) (by kernel_rfl) (by kernel_rfl) (fun _ _ _ h => h) (Or.inl ⟨by rfl, ?_⟩) (by assumption) ?_
      rotate_left
      · (intro w hSw; obtain ⟨l0, l1⟩ := hSw; go_simp; try (with_reducible rfl))
      try simp only [Act.put, List.getElem_toArray, List.getElem_cons_succ, List.getElem_cons_zero, List.setIfInBounds_toArray, List.set_cons_zero, List.set_cons_succ]
      refine wpAnyH_take (i := 1) (v := ?_) rfl (by kernel_rfl) (by kernel_rfl) (by kernel_rfl) (fun _ _ _ h => h) (Or.inl ⟨by rfl, ?_⟩) (by assumption) ?_
      rotate_left
      · (intro w hSw; obtain ⟨l0, l1⟩ := hSw; go_simp; try (with_reducible rfl))
      try simp only [Act.put, List.getElem_toArray, List.getElem_cons_succ, List.getElem_cons_zero, List.setIfInBounds_toArray, List.set_cons_zero, List.set_cons_succ]
      refine wpAnyH_take (i := 2) (v := ?_) rfl (by kernel_rfl) (by kernel_rfl) (by kernel_rfl) (fun _ _ _ h => h) (Or.inl ⟨by rfl, ?_⟩) (by assumption) ?_
      rotate_left
      · (intro w hSw; obtain ⟨l0, l1⟩ := hSw; go_simp; try (with_reducible rfl))
      try simp only [Act.put, List.getElem_toArray, List.getElem_cons_succ, List.getElem_cons_zero, List.setIfInBounds_toArray, List.set_cons_zero, List.set_cons_succ]
      refine wpAnyH_take (i := 4) (v := ?_) rfl (by kernel_rfl) (by kernel_rfl) (by kernel_rfl) (fun _ _ _ h => h) (Or.inl ⟨by rfl, ?_⟩) (by assumption) ?_
      rotate_left
      · (intro w hSw; obtain ⟨l0, l1⟩ := hSw; go_simp; try (with_reducible rfl))
      try simp only [Act.put, List.getElem_toArray, List.getElem_cons_succ, List.getElem_cons_zero, List.setIfInBounds_toArray, List.set_cons_zero, List.set_cons_succ]
      refine wpAnyH_take (i := 5) (v := ?_) rfl (by kernel_rfl) (by kernel_rfl) (by kernel_rfl) (fun _ _ _ h => h) (Or.inl ⟨by rfl, ?_⟩) (by assumption) ?_
      rotate_left
      · (intro w hSw; obtain ⟨l0, l1⟩ := hSw; go_simp; try (with_reducible rfl))
      try simp only [Act.put, List.getElem_toArray, List.getElem_cons_succ, List.getElem_cons_zero, List.setIfInBounds_toArray, List.set_cons_zero, List.set_cons_succ]
      refine wpAnyH_take (i := 6) (v := ?_) rfl (by kernel_rfl) (by kernel_rfl) (by kernel_rfl) (fun _ _ _ h => h) (Or.inl ⟨by rfl, ?_⟩) (by assumption) ?_
      rotate_left
      · (intro w hSw; obtain ⟨l0, l1⟩ := hSw; go_simp; try (with_reducible rfl))
      try simp only [Act.put, List.getElem_toArray, List.getElem_cons_succ, List.getElem_cons_zero, List.setIfInBounds_toArray, List.set_cons_zero, List.set_cons_succ]
      refine wpAnyH_take (i := 7) (v := ?_) rfl (by kernel_rfl) (by kernel_rfl) (by kernel_rfl) (fun _ _ _ h => h) (Or.inl ⟨by rfl, ?_⟩) (by assumption) ?_
      rotate_left
      · (intro w hSw; obtain ⟨l0, l1⟩ := hSw; go_simp; try (with_reducible rfl))
      try simp only [Act.put, List.getElem_toArray, List.getElem_cons_succ, List.getElem_cons_zero, List.setIfInBounds_toArray, List.set_cons_zero, List.set_cons_succ]
      refine wpAnyH_take (i := 8) (v := ?_) rfl (by kernel_rfl) (by kernel_rfl) (by kernel_rfl) (fun _ _ _ h => h) (Or.inl ⟨by rfl, ?_⟩) (by assumption) ?_
      rotate_left
      · (intro w hSw; obtain ⟨l0, l1⟩ := hSw; go_simp; try (with_reducible rfl))
      try simp only [Act.put, List.getElem_toArray, List.getElem_cons_succ, List.getElem_cons_zero, List.setIfInBounds_toArray, List.set_cons_zero, List.set_cons_succ]
      refine wpAnyH_take (i := 9) (v := ?_) rfl (by kernel_rfl) (by kernel_rfl) (by kernel_rfl) (fun _ _ _ h => h) (Or.inl ⟨by rfl, ?_⟩) (by assumption) ?_
      rotate_left
      · (intro w hSw; obtain ⟨l0, l1⟩ := hSw; go_simp; try (with_reducible rfl))
      try simp only [Act.put, List.getElem_toArray, List.getElem_cons_succ, List.getElem_cons_zero, List.setIfInBounds_toArray, List.set_cons_zero, List.set_cons_succ]
      refine wpAnyH_take (i := 10) (v := ?_) rfl (by kernel_rfl) (by kernel_rfl) (by kernel_rfl) (fun _ _ _ h => h) (Or.inl ⟨by rfl, ?_⟩) (by assumption) ?_
      rotate_left
      · (intro w hSw; obtain ⟨l0, l1⟩ := hSw; go_simp; try (with_reducible rfl))
      try simp only [Act.put, List.getElem_toArray, List.getElem_cons_succ, List.getElem_cons_zero, List.setIfInBounds_toArray, List.set_cons_zero, List.set_cons_succ]
      refine wpAnyH_take (i := 11) (v := ?_) rfl (by kernel_rfl) (by kernel_rfl) (by kernel_rfl) (fun _ _ _ h => h) (Or.inl ⟨by rfl, ?_⟩) (by assumption) ?_
      rotate_left
      · (intro w hSw; obtain ⟨l0, l1⟩ := hSw; go_simp; try (with_reducible rfl))
      try simp only [Act.put, List.getElem_toArray, List.getElem_cons_succ, List.getElem_cons_zero, List.setIfInBounds_toArray, List.set_cons_zero, List.set_cons_succ]
      refine wpAnyH_ready (rs := [3]) (by kernel_rfl) (by simp) ?_
      refine AllReadyH.cons rfl (fun K hK => ?_) ?_
      · go_simp
        refine hK.out _ _ hHeld (fun hHeld => ?_)
        clear hK K
        try simp only [Act.put, List.getElem_toArray, List.getElem_cons_succ, List.getElem_cons_zero, List.setIfInBounds_toArray, List.set_cons_zero, List.set_cons_succ]
        refine wpAnyH_take (i := 12) (v := ?_) rfl (by kernel_rfl) (by kernel_rfl) (by kernel_rfl) (fun _ _ _ h => h) (Or.inl ⟨by rfl, ?_⟩) (by assumption) ?_
        rotate_left
        · (intro w hSw; (try dsimp only at hSw); go_simp; try (with_reducible rfl))
        try simp only [Act.put, List.getElem_toArray, List.getElem_cons_succ, List.getElem_cons_zero, List.setIfInBounds_toArray, List.set_cons_zero, List.set_cons_succ]
        refine wpAnyH_take (i := 13) (v := ?_) rfl (by kernel_rfl) (by kernel_rfl) (by kernel_rfl) (fun _ _ _ h => h) (Or.inl ⟨by rfl, ?_⟩) (by assumption) ?_
        rotate_left
        · (intro w hSw; (try dsimp only at hSw); go_simp; try (with_reducible rfl))
        try simp only [Act.put, List.getElem_toArray, List.getElem_cons_succ, List.getElem_cons_zero, List.setIfInBounds_toArray, List.set_cons_zero, List.set_cons_succ]
        refine wpAnyH_take (i := 14) (v := ?_) rfl (by kernel_rfl) (by kernel_rfl) (by kernel_rfl) (fun _ _ _ h => h) (Or.inl ⟨by rfl, ?_⟩) (by assumption) ?_
        rotate_left
        · (intro w hSw; (try dsimp only at hSw); go_simp; try (with_reducible rfl))
        try simp only [Act.put, List.getElem_toArray, List.getElem_cons_succ, List.getElem_cons_zero, List.setIfInBounds_toArray, List.set_cons_zero, List.set_cons_succ]
        refine wpAnyH_ready (rs := [15]) (by kernel_rfl) (by simp) ?_
        refine AllReadyH.cons rfl (fun K hK => ?_) ?_
        · go_simp
          refine hK.out _ _ ⟨((HK.out.far (p := ⟨g, 9, none⟩) (by show w.heap.size ≠ g; omega) _).cell 2), ((HK.out.far (p := ⟨g, 9, none⟩) (by show w.heap.size ≠ g; omega) _).cell 3)⟩ (fun hHeld => ?_)
          clear hK K
          try simp only [Act.put, List.getElem_toArray, List.getElem_cons_succ, List.getElem_cons_zero, List.setIfInBounds_toArray, List.set_cons_zero, List.set_cons_succ]
          refine wpAnyH_done (by kernel_rfl) ?_ _
          have hsz : IntKind.i64.wrap (S1.size + IntKind.i64.wrap (IntKind.i64.wrap ((key.size : Int) + (v.size : Int)) + 16)) = IntKind.i64.wrap (S1.size + (key.size : Int) + (v.size : Int) + 16) := by
            rw [i64_in ((key.size : Int) + (v.size : Int)) (by omega), i64_in ((key.size : Int) + (v.size : Int) + 16) (by omega)]
            congr 1; omega
          rw [hsz]
          obtain ⟨sz, hsz2⟩ : ∃ sz, sz = IntKind.i64.wrap (S1.size + (key.size : Int) + (v.size : Int) + 16) := ⟨_, rfl⟩
          rw [← hsz2]
          have HSZ := Lib.hid hsz2
          have hg8 : Blk (wc.setCell ⟨g, 9, none⟩ (.int .i64 sz)).drew g 68 #[.int .i64 how, .slice hA hl.length hc, hu, hs, hk, hval, .slice (some ⟨hb, 0, none⟩) 12 12, .int .i64 (N.length : Nat), tv, .int .i64 sz, .int .u64 S1.first, .int .u64 S1.last] := (HP.out.tbl.blk.set_ 9 (.int .i64 sz)).drew
          have ho8 : ∀ k : Nat, k ≠ g → (wc.setCell ⟨g, 9, none⟩ (.int .i64 sz)).drew.heap[k]? = wc.heap[k]? := fun k hk => Below.heap_setCell wc _ _ k hk
          have hcz : Chg wc (wc.setCell ⟨g, 9, none⟩ (.int .i64 sz)).drew (fun k => k = g) := ⟨rfl, rfl, rfl, by simp, fun k _ hk => ho8 k hk⟩
          clear hsz hsz2 c9 f9 r2 r3 hHeld
          generalize (wc.setCell ⟨g, 9, none⟩ (.int .i64 sz)).drew = w8 at *
          have HT8 := Lib.hid (HP.out.nums sz S1.first S1.last hcz.size (fun k hk _ => ho8 k hk) hg8)
          have hn8 : ({ S1 with size := sz, first := S1.first, last := S1.last } : TS).n ≤ 1000000 := by show S1.n ≤ 1000000; omega
          have HG8 := Lib.hid hg8
          have HC8 := Lib.hid hcz
          clear hg8 ho8 hcz
          go_wp2_with fail
          refine (mLen_any HT8.out hn8).mono ?_
          rintro e w9 ⟨rfl, nq, hnq⟩
          have hb9 : Below w8.heap.size w8 w9 := by rw [hnq]; exact below_drewN (Below.refl _ _) nq
          have HG9 := Lib.hid (HG8.out.below hb9 HG8.out.lt)
          have HC9 := Lib.hid (HC8.out.next hb9)
          have hnn : ({ S1 with size := sz, first := S1.first, last := S1.last } : TS).n = S1.n := rfl
          rw [hnn]
          clear hb9 hnq HT8 HG8 HC8 hn8 hnn
          have c10 : w9.cell? ⟨g, 10, none⟩ = some (.int .u64 S1.first) := HG9.out.cell 10
          have c11 : w9.cell? ⟨g, 11, none⟩ = some (.int .u64 S1.last) := HG9.out.cell 11
          have f10 := HG9.out.frozen 10
          have f11 := HG9.out.frozen 11
          by_cases hone : S1.n = 1
          · have hdo : ((S1.n : Int) == 1) = true := by rw [hone]; rfl
            go_wp2_with fail
            have HGt := Lib.hid ((HG9.out.set_ 10 (.int .u64 seq)).set_ 11 (.int .u64 seq))
            have HCt := Lib.hid ((HC9.out.set_ g 10 (.int .u64 seq) (.inl rfl)).set_ g 11 (.int .u64 seq) (.inl rfl))
            have HFN : Hid (({ S1 with size := sz, first := seq, last := seq } : TS) = S1.fin seq key.size v.size) := by
              have e1 : min seq seq = seq := by omega
              have e2 : max seq seq = seq := by omega
              rw [HSZ.out]; unfold TS.fin; rw [if_pos hone, if_pos hone]; dsimp only; rw [e1, e2]; rfl
            clear c10 c11 f10 f11 HG9 HC9 hdo hone
            generalize (w9.setCell ⟨g, 10, none⟩ (.int .u64 seq)).setCell ⟨g, 11, none⟩ (.int .u64 seq) = wt at *
            have hgF : g ∈ F := hgF0
            have c10 : wt.cell? ⟨g, 10, none⟩ = some (.int .u64 seq) := HGt.out.cell 10
            have c11 : wt.cell? ⟨g, 11, none⟩ = some (.int .u64 seq) := HGt.out.cell 11
            have f10 := HGt.out.frozen 10
            have f11 := HGt.out.frozen 11
            go_region
            go_wp2_with fail
            go_ret
            have hgE := ((HGt.out.set_ 10 (.int .u64 seq)).set_ 11 (.int .u64 seq)).drew
            have hcE := (HCt.out.set_ g 10 (.int .u64 seq) (.inl rfl)).set_ g 11 (.int .u64 seq) (.inl rfl)
            refine ⟨rfl, F1, ?_, HCG.out.trans (Chg.drewC (hcE.more fun k _ hk => by rw [hk]; exact hgF)), HF1.out⟩
            have := HP.out.nums (w7 := ((wt.setCell ⟨g, 10, none⟩ (.int .u64 seq)).setCell ⟨g, 11, none⟩ (.int .u64 seq)).drew) sz seq seq (Nat.le_trans hcE.size (Nat.le_refl _)) (fun k hk hl => hcE.block k hl hk) hgE
            rw [← HS1.out, ← HFN.out]
            exact this
          · have hdo : ((S1.n : Int) == 1) = false := by rw [beq_eq_false_iff_ne]; omega
            go_wp2_with fail
            have HFN : Hid (({ S1 with size := sz, first := min S1.first seq, last := max S1.last seq } : TS) = S1.fin seq key.size v.size) := by rw [HSZ.out]; unfold TS.fin; rw [if_neg hone, if_neg hone]; rfl
            have HGt := HG9
            have HCt := HC9
            clear c10 c11 f10 f11 HG9 HC9 hdo hone
            generalize w9 = wt at *
            have hgF : g ∈ F := hgF0
            have c10 : wt.cell? ⟨g, 10, none⟩ = some (.int .u64 S1.first) := HGt.out.cell 10
            have c11 : wt.cell? ⟨g, 11, none⟩ = some (.int .u64 S1.last) := HGt.out.cell 11
            have f10 := HGt.out.frozen 10
            have f11 := HGt.out.frozen 11
            go_region
            go_wp2_with fail
            go_ret
            have hgE := ((HGt.out.set_ 10 (.int .u64 (min S1.first seq))).set_ 11 (.int .u64 (max S1.last seq))).drew
            have hcE := (HCt.out.set_ g 10 (.int .u64 (min S1.first seq)) (.inl rfl)).set_ g 11 (.int .u64 (max S1.last seq)) (.inl rfl)
            refine ⟨rfl, F1, ?_, HCG.out.trans (Chg.drewC (hcE.more fun k _ hk => by rw [hk]; exact hgF)), HF1.out⟩
            have := HP.out.nums (w7 := ((wt.setCell ⟨g, 10, none⟩ (.int .u64 (min S1.first seq))).setCell ⟨g, 11, none⟩ (.int .u64 (max S1.last seq))).drew) sz (min S1.first seq) (max S1.last seq) (Nat.le_trans hcE.size (Nat.le_refl _)) (fun k hk hl => hcE.block k hl hk) hgE
            rw [← HS1.out, ← HFN.out]
            exact this
        exact AllReadyH.nil
      exact AllReadyH.nil
  exact AllReadyH.nil
end Go.Proofs.Ytodnojpolkdlmaa
