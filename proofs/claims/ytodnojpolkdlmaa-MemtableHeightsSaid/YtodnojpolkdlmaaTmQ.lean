/-
  Add of an entry that is not there.
-/
import Derived.Test.YtodnojpolkdlmaaTmP
namespace Go.Proofs.Ytodnojpolkdlmaa
set_option linter.unusedSimpArgs false
set_option linter.unusedVariables false
open Go.RowKit Go.IntWalk
attribute [local go_sem ↓] Go.wp_at_zero Go.wp_at_succ

set_option maxHeartbeats 4000000 in
set_option maxRecDepth 100000 in
theorem mAdd_put_new {w : World} {g : Nat} {how : Int} {hl : List UInt8} {S : TS} {F H : List Nat} (ht : Tab w g how hl S F H) (hH : ∀ k ∈ H, k < w.heap.size) (hll : hl.length ≤ 1000000000000000) (hs : SortE how S.l) (seq : Int) (f : Int) (key v : ByteArray) (h : seq ≤ 72057594037927935) (hc : chkR ⟨f, 1, key, v⟩ = 0) (hf : S.n < 8192) (hth : thereE how S.l ⟨key, seq, 1⟩ = false) :
    Calls Try.prog 9 #[.pointer (some ⟨g, 0, none⟩), .int .u64 seq, .agg #[.int .u32 f, .int .i64 1, .string key, .string v]] w fun e w' => e = .returned (.int .i64 0) ∧
      AddP w g how hl ({ S with l := insE S.l (posE how S.l ⟨key, seq, 1⟩) ⟨⟨key, seq, 1⟩, v⟩ }.fin seq key.size v.size) F H w' := by
  have hvk := chk_size hc
  have HS := Lib.hid hs
  have HTH := Lib.hid hth
  have HHH := Lib.hid hH
  clear hs hth hH
  have hd : decide (72057594037927935 < seq) = false := by simpa using h
  have HC := fun w => bChk_any ⟨f, 1, key, v⟩ w
  dsimp only at HC ⊢
  rw [hc] at HC
  have HCC := Lib.hid HC
  have HT := Lib.hid ht
  have hd2 : decide ((8192 : Int) ≤ (S.n : Int)) = false := by simp; omega
  have hn : S.n ≤ 1000000 := by omega
  have hblk : Blk (w.alloc (.cells #[.int .u32 f, .int .i64 1, .string key, .string v] 33)) w.heap.size 33 #[.int .u32 f, .int .i64 1, .string key, .string v] := Blk.new _ _ _
  have HBK := Lib.hid hblk
  clear h hc HC ht hblk
  go_enter Try.func9, Try.ntmps9
  go_wp2_with fail
  refine (HCC.out _).mono ?_
  rintro e w1 ⟨rfl, hb1⟩
  have HB1 := Lib.hid (((Below.refl _ w).alloc (Nat.le_refl _) _).trans (hb1.mono (by simp)))
  have HK1 := Lib.hid (HBK.out.below hb1 (by simp))
  clear hb1 HBK
  go_wp2_with fail
  refine (mLen_any (HT.out.below HB1.out) hn).mono ?_
  rintro e w2 ⟨rfl, nq, hnq⟩
  have hb2 : Below w1.heap.size w1 w2 := by rw [hnq]; exact below_drewN (Below.refl _ _) nq
  have HB2 := Lib.hid (HB1.out.trans (hb2.mono HB1.out.size))
  have HK2 := Lib.hid (HK1.out.below hb2 HK1.out.lt)
  have HT2 := Lib.hid (HT.out.below HB2.out)
  clear hb2 hnq nq HB1 HK1 HCC
  have k0 : w2.cell? ⟨w.heap.size, 0, none⟩ = some (.int .u32 f) := HK2.out.cell 0
  have k1 : w2.cell? ⟨w.heap.size, 1, none⟩ = some (.int .i64 1) := HK2.out.cell 1
  have k2 : w2.cell? ⟨w.heap.size, 2, none⟩ = some (.string key) := HK2.out.cell 2
  have k3 : w2.cell? ⟨w.heap.size, 3, none⟩ = some (.string v) := HK2.out.cell 3
  have f3 := HK2.out.frozen 3
  obtain ⟨hb, hA, hc, tv, hu, hs, hk, hval, N, hp2⟩ := HT.out.parts
  obtain ⟨P, Q, rfl, hPe, hQe, hP, hQ, hne, -⟩ := split_nodes hp2.nl HS.out ⟨key, seq, 1⟩
  have hnd : (g :: hb :: blksOf (P ++ Q)).Nodup := by have := hp2.nd; rw [hp2.fp, List.nodup_append] at this; exact this.1
  have hnl : (P ++ Q).length ≤ 1000000 := by
    have h1 := congrArg List.length hp2.nl
    have h2 : S.n = S.l.length + S.t.length := rfl
    rw [List.length_map] at h1; omega
  have HPT := Lib.hid (fun w' (h' : Below w.heap.size w w') => mPut_new w' g hb hc w'.heap.size hA hl how hu hs hk hval tv _ _ _ P Q ⟨⟨key, seq, 1⟩, v⟩ (hp2.below h').tbl hP hQ (hne HTH.out) hnd hnl hll (hp2.below h').bs (Nat.le_refl _))
  dsimp only at HPT
  have hgw : g < w.heap.size := hp2.lt g hp2.gF
  have hgF0 := hp2.gF
  have HP2 := Lib.hid hp2
  have HB3 : Hid (Below w.heap.size w w2) := HB2.out
  have HK3 : Hid (Blk w2 w.heap.size 33 #[.int .u32 f, .int .i64 1, .string key, .string v]) := HK2.out
  clear hp2 hP hQ hne hnd hnl
  go_wp2_with fail
  refine (HPT.out _ HB3.out).mono ?_
  rintro e w4 ⟨rfl, m, hm1, hm2, hm3, hm4, htb4, hcg4⟩
  have hk4 : Blk w4 w.heap.size 33 #[.int .u32 f, .int .i64 1, .string key, .string v] := (hcg4.block _ HK3.out.lt fun hf => by
    have h9 : ∀ k, skF g hb (P ++ Q) k → k ∈ F := fun k hk => by
      rw [HP2.out.fp]
      rcases hk with rfl | rfl | hk
      · simp
      · simp
      · exact List.mem_append_left _ (List.mem_cons_of_mem _ (List.mem_cons_of_mem _ hk))
    have := HP2.out.lt _ (h9 _ hf); omega).trans HK3.out
  have HA := Lib.hid (AddP.from HB3.out HP2.out.lt ((HP2.out.below HB3.out).putE (l' := insE S.l (posE how S.l ⟨key, seq, 1⟩) ⟨⟨key, seq, 1⟩, v⟩) (fun k hk => Nat.lt_of_lt_of_le (HHH.out k hk) HB3.out.size) rfl (by rw [hPe, hQe, hm1]; rfl) hm2 hm3 hm4 htb4 hcg4))
  have HK := Lib.hid hk4
  have hn1 : S.n + 1 = ({ S with l := insE S.l (posE how S.l ⟨key, seq, 1⟩) ⟨⟨key, seq, 1⟩, v⟩ } : TS).n := by
    show S.l.length + S.t.length + 1 = (insE S.l _ _).length + S.t.length
    rw [insE_len _ _ _ (posE_le _ _ _)]; omega
  obtain ⟨vv, hvv⟩ : ∃ vv : ByteArray, vv = v := ⟨_, rfl⟩
  have hv1 : vv.size ≤ 100000 ∧ key.size ≤ 100000 := by rw [hvv]; exact hvk
  rw [← hvv] at HK HA hn1
  have HVV := Lib.hid hvv
  obtain ⟨S1, hS1⟩ : ∃ S1 : TS, S1 = { S with l := insE S.l (posE how S.l ⟨key, seq, 1⟩) ⟨⟨key, seq, 1⟩, vv⟩ } := ⟨_, rfl⟩
  rw [← hS1] at HA hn1
  have HS1 := Lib.hid hS1
  obtain ⟨wc, rfl⟩ : ∃ wc, wc = w4 := ⟨_, rfl⟩
  clear hS1 hvv hk4 htb4 hcg4 hm1 hm2 hm3 hm4 m HP2 HPT hPe hQe hvk k0 k1 k2 k3 f3 HB3 HK3
  clear hb hA hc tv hu hs hk hval
  obtain ⟨F1, ht1, hcg1, hF1⟩ := HA.out
  obtain ⟨hb, hA, hc, tv, hu, hs, hk, hval, N, hp1⟩ := ht1.parts
  have HP := Lib.hid hp1
  have HCG := Lib.hid hcg1
  have HF1 := Lib.hid hF1
  have c9 : wc.cell? ⟨g, 9, none⟩ = some (.int .i64 S1.size) := hp1.tbl.blk.cell 9
  have f9 := hp1.tbl.blk.frozen 9
  have r2 : wc.cell? ⟨w.heap.size, 2, none⟩ = some (.string key) := HK.out.cell 2
  have r3 : wc.cell? ⟨w.heap.size, 3, none⟩ = some (.string vv) := HK.out.cell 3
  clear ht1 hcg1 hF1 hp1 HA
  go_wp2_with fail
  refine wp_region_held_drew (S := fun w' => w'.cell? ⟨w.heap.size, 2, none⟩ = some (.string key) ∧ w'.cell? ⟨w.heap.size, 3, none⟩ = some (.string vv)) (by kernel_rfl) ⟨r2, r3⟩ (fun hHeld => ?_)
  refine wpAnyH_take (i := 0) (v := ?_) rfl (by kernel_rfl) (by kernel_rfl) (by kernel_rfl) (fun _ _ _ h => h) (Or.inl ⟨by rfl, ?_⟩) (by assumption) ?_
  rotate_left
  · (intro w hSw; obtain ⟨l0, l1⟩ := hSw; go_simp; try (with_reducible rfl))
  try simp only [Act.put, List.getElem_toArray, List.getElem_cons_succ, List.getElem_cons_zero, List.setIfInBounds_toArray, List.set_cons_zero, List.set_cons_succ]
  refine wpAnyH_take (i := 1) (v := ?_) rfl (by kernel_rfl) (by kernel_rfl) (by kernel_rfl) (fun _ _ _ h => h) (Or.inl ⟨by rfl, ?_⟩) (by assumption) ?_
  rotate_left
  · (intro w hSw; obtain ⟨l0, l1⟩ := hSw; go_simp; try (with_reducible rfl))
  try simp only [Act.put, List.getElem_toArray, List.getElem_cons_succ, List.getElem_cons_zero, List.setIfInBounds_toArray, List.set_cons_zero, List.set_cons_succ]
  refine wpAnyH_take (i := 2) (v := ?_) rfl (by kernel_rfl) (by kernel_rfl) (by kernel_rfl) (fun _ _ _ h => h) (Or.inl ⟨by rfl, ?_⟩) (by assumption) ?_
  rotate_left
  · (intro w hSw; obtain ⟨l0, l1⟩ := hSw; go_simp; try (with_reducible rfl))
  try simp only [Act.put, List.getElem_toArray, List.getElem_cons_succ, List.getElem_cons_zero, List.setIfInBounds_toArray, List.set_cons_zero, List.set_cons_succ]
  refine wpAnyH_take (i := 4) (v := ?_) rfl (by kernel_rfl) (by kernel_rfl) (by kernel_rfl) (fun _ _ _ h => h) (Or.inl ⟨by rfl, ?_⟩) (by assumption) ?_
  rotate_left
  · (intro w hSw; obtain ⟨l0, l1⟩ := hSw; go_simp; try (with_reducible rfl))
  try simp only [Act.put, List.getElem_toArray, List.getElem_cons_succ, List.getElem_cons_zero, List.setIfInBounds_toArray, List.set_cons_zero, List.set_cons_succ]
  refine wpAnyH_take (i := 5) (v := ?_) rfl (by kernel_rfl) (by kernel_rfl) (by kernel_rfl) (fun _ _ _ h => h) (Or.inl ⟨by rfl, ?_⟩) (by assumption) ?_
  rotate_left
  · (intro w hSw; obtain ⟨l0, l1⟩ := hSw; go_simp; try (with_reducible rfl))
  try simp only [Act.put, List.getElem_toArray, List.getElem_cons_succ, List.getElem_cons_zero, List.setIfInBounds_toArray, List.set_cons_zero, List.set_cons_succ]
  refine wpAnyH_take (i := 6) (v := ?_) rfl (by kernel_rfl) (by kernel_rfl) (by kernel_rfl) (fun _ _ _ h => h) (Or.inl ⟨by rfl, ?_⟩) (by assumption) ?_
  rotate_left
  · (intro w hSw; obtain ⟨l0, l1⟩ := hSw; go_simp; try (with_reducible rfl))
  try simp only [Act.put, List.getElem_toArray, List.getElem_cons_succ, List.getElem_cons_zero, List.setIfInBounds_toArray, List.set_cons_zero, List.set_cons_succ]
  refine wpAnyH_take (i := 7) (v := ?_) rfl (by kernel_rfl) (by kernel_rfl) (by kernel_rfl) (fun _ _ _ h => h) (Or.inl ⟨by rfl, ?_⟩) (by assumption) ?_
  rotate_left
  · (intro w hSw; obtain ⟨l0, l1⟩ := hSw; go_simp; try (with_reducible rfl))
  try simp only [Act.put, List.getElem_toArray, List.getElem_cons_succ, List.getElem_cons_zero, List.setIfInBounds_toArray, List.set_cons_zero, List.set_cons_succ]
  refine wpAnyH_take (i := 8) (v := ?_) rfl (by kernel_rfl) (by kernel_rfl) (by kernel_rfl) (fun _ _ _ h => h) (Or.inl ⟨by rfl, ?_⟩) (by assumption) ?_
  rotate_left
  · (intro w hSw; obtain ⟨l0, l1⟩ := hSw; go_simp; try (with_reducible rfl))
  try simp only [Act.put, List.getElem_toArray, List.getElem_cons_succ, List.getElem_cons_zero, List.setIfInBounds_toArray, List.set_cons_zero, List.set_cons_succ]
  refine wpAnyH_take (i := 9) (v := ?_) rfl (by kernel_rfl) (by kernel_rfl) (by kernel_rfl) (fun _ _ _ h => h) (Or.inl ⟨by rfl, ?_⟩) (by assumption) ?_
  rotate_left
  · (intro w hSw; obtain ⟨l0, l1⟩ := hSw; go_simp; try (with_reducible rfl))
  try simp only [Act.put, List.getElem_toArray, List.getElem_cons_succ, List.getElem_cons_zero, List.setIfInBounds_toArray, List.set_cons_zero, List.set_cons_succ]
  refine wpAnyH_take (i := 10) (v := ?_) rfl (by kernel_rfl) (by kernel_rfl) (by kernel_rfl) (fun _ _ _ h => h) (Or.inl ⟨by rfl, ?_⟩) (by assumption) ?_
  rotate_left
  · (intro w hSw; obtain ⟨l0, l1⟩ := hSw; go_simp; try (with_reducible rfl))
  try simp only [Act.put, List.getElem_toArray, List.getElem_cons_succ, List.getElem_cons_zero, List.setIfInBounds_toArray, List.set_cons_zero, List.set_cons_succ]
  refine wpAnyH_take (i := 11) (v := ?_) rfl (by kernel_rfl) (by kernel_rfl) (by kernel_rfl) (fun _ _ _ h => h) (Or.inl ⟨by rfl, ?_⟩) (by assumption) ?_
  rotate_left
  · (intro w hSw; obtain ⟨l0, l1⟩ := hSw; go_simp; try (with_reducible rfl))
  try simp only [Act.put, List.getElem_toArray, List.getElem_cons_succ, List.getElem_cons_zero, List.setIfInBounds_toArray, List.set_cons_zero, List.set_cons_succ]
  refine wpAnyH_ready (rs := [3]) (by kernel_rfl) (by simp) ?_
  refine AllReadyH.cons rfl (fun K hK => ?_) ?_
  · go_simp
    refine hK.out _ _ hHeld (fun hHeld => ?_)
    clear hK K
    try simp only [Act.put, List.getElem_toArray, List.getElem_cons_succ, List.getElem_cons_zero, List.setIfInBounds_toArray, List.set_cons_zero, List.set_cons_succ]
    refine wpAnyH_take (i := 12) (v := ?_) rfl (by kernel_rfl) (by kernel_rfl) (by kernel_rfl) (fun _ _ _ h => h) (Or.inl ⟨by rfl, ?_⟩) (by assumption) ?_
    rotate_left
    · (intro w hSw; (try dsimp only at hSw); go_simp; try (with_reducible rfl))
    try simp only [Act.put, List.getElem_toArray, List.getElem_cons_succ, List.getElem_cons_zero, List.setIfInBounds_toArray, List.set_cons_zero, List.set_cons_succ]
    refine wpAnyH_take (i := 13) (v := ?_) rfl (by kernel_rfl) (by kernel_rfl) (by kernel_rfl) (fun _ _ _ h => h) (Or.inl ⟨by rfl, ?_⟩) (by assumption) ?_
    rotate_left
    · (intro w hSw; (try dsimp only at hSw); go_simp; try (with_reducible rfl))
    try simp only [Act.put, List.getElem_toArray, List.getElem_cons_succ, List.getElem_cons_zero, List.setIfInBounds_toArray, List.set_cons_zero, List.set_cons_succ]
    refine wpAnyH_take (i := 14) (v := ?_) rfl (by kernel_rfl) (by kernel_rfl) (by kernel_rfl) (fun _ _ _ h => h) (Or.inl ⟨by rfl, ?_⟩) (by assumption) ?_
    rotate_left
    · (intro w hSw; (try dsimp only at hSw); go_simp; try (with_reducible rfl))
    try simp only [Act.put, List.getElem_toArray, List.getElem_cons_succ, List.getElem_cons_zero, List.setIfInBounds_toArray, List.set_cons_zero, List.set_cons_succ]
    refine wpAnyH_ready (rs := [15]) (by kernel_rfl) (by simp) ?_
    refine AllReadyH.cons rfl (fun K hK => ?_) ?_
    · go_simp
      refine hK.out _ _ ⟨((HK.out.far (p := ⟨g, 9, none⟩) (by show w.heap.size ≠ g; omega) _).cell 2), ((HK.out.far (p := ⟨g, 9, none⟩) (by show w.heap.size ≠ g; omega) _).cell 3)⟩ (fun hHeld => ?_)
      clear hK K
      try simp only [Act.put, List.getElem_toArray, List.getElem_cons_succ, List.getElem_cons_zero, List.setIfInBounds_toArray, List.set_cons_zero, List.set_cons_succ]
      refine wpAnyH_done (by kernel_rfl) ?_ _
      have hsz : IntKind.i64.wrap (S1.size + IntKind.i64.wrap (IntKind.i64.wrap ((key.size : Int) + (vv.size : Int)) + 16)) = IntKind.i64.wrap (S1.size + (key.size : Int) + (vv.size : Int) + 16) := by
        rw [i64_in ((key.size : Int) + (vv.size : Int)) (by omega), i64_in ((key.size : Int) + (vv.size : Int) + 16) (by omega)]
        congr 1; omega
      rw [hsz]
      obtain ⟨sz, hsz2⟩ : ∃ sz, sz = IntKind.i64.wrap (S1.size + (key.size : Int) + (vv.size : Int) + 16) := ⟨_, rfl⟩
      rw [← hsz2]
      have HSZ := Lib.hid hsz2
      have hg8 : Blk (wc.setCell ⟨g, 9, none⟩ (.int .i64 sz)).drew g 68 #[.int .i64 how, .slice hA hl.length hc, hu, hs, hk, hval, .slice (some ⟨hb, 0, none⟩) 12 12, .int .i64 (N.length : Nat), tv, .int .i64 sz, .int .u64 S1.first, .int .u64 S1.last] := (HP.out.tbl.blk.set_ 9 (.int .i64 sz)).drew
      have ho8 : ∀ k : Nat, k ≠ g → (wc.setCell ⟨g, 9, none⟩ (.int .i64 sz)).drew.heap[k]? = wc.heap[k]? := fun k hk => Below.heap_setCell wc _ _ k hk
      have hcz : Chg wc (wc.setCell ⟨g, 9, none⟩ (.int .i64 sz)).drew (fun k => k = g) := ⟨rfl, rfl, rfl, by simp, fun k _ hk => ho8 k hk⟩
      clear hsz hsz2 c9 f9 r2 r3 hHeld
      generalize (wc.setCell ⟨g, 9, none⟩ (.int .i64 sz)).drew = w8 at *
      have HT8 := Lib.hid (HP.out.nums sz S1.first S1.last hcz.size (fun k hk _ => ho8 k hk) hg8)
      have hn8 : ({ S1 with size := sz, first := S1.first, last := S1.last } : TS).n ≤ 1000000 := by show S1.n ≤ 1000000; omega
      have HG8 := Lib.hid hg8
      have HC8 := Lib.hid hcz
      clear hg8 ho8 hcz
      go_wp2_with fail
      refine (mLen_any HT8.out hn8).mono ?_
      rintro e w9 ⟨rfl, nq, hnq⟩
      have hb9 : Below w8.heap.size w8 w9 := by rw [hnq]; exact below_drewN (Below.refl _ _) nq
      have HG9 := Lib.hid (HG8.out.below hb9 HG8.out.lt)
      have HC9 := Lib.hid (HC8.out.next hb9)
      have hnn : ({ S1 with size := sz, first := S1.first, last := S1.last } : TS).n = S1.n := rfl
      rw [hnn]
      clear hb9 hnq HT8 HG8 HC8 hn8 hnn
      have c10 : w9.cell? ⟨g, 10, none⟩ = some (.int .u64 S1.first) := HG9.out.cell 10
      have c11 : w9.cell? ⟨g, 11, none⟩ = some (.int .u64 S1.last) := HG9.out.cell 11
      have f10 := HG9.out.frozen 10
      have f11 := HG9.out.frozen 11
      by_cases hone : S1.n = 1
      · have hdo : ((S1.n : Int) == 1) = true := by rw [hone]; rfl
        go_wp2_with fail
        have HGt := Lib.hid ((HG9.out.set_ 10 (.int .u64 seq)).set_ 11 (.int .u64 seq))
        have HCt := Lib.hid ((HC9.out.set_ g 10 (.int .u64 seq) (.inl rfl)).set_ g 11 (.int .u64 seq) (.inl rfl))
        have HFN : Hid (({ S1 with size := sz, first := seq, last := seq } : TS) = S1.fin seq key.size vv.size) := by
          have e1 : min seq seq = seq := by omega
          have e2 : max seq seq = seq := by omega
          rw [HSZ.out]; unfold TS.fin; rw [if_pos hone, if_pos hone]; dsimp only; rw [e1, e2]; rfl
        clear c10 c11 f10 f11 HG9 HC9 hdo hone
        generalize (w9.setCell ⟨g, 10, none⟩ (.int .u64 seq)).setCell ⟨g, 11, none⟩ (.int .u64 seq) = wt at *
        have hgF : g ∈ F := hgF0
        have c10 : wt.cell? ⟨g, 10, none⟩ = some (.int .u64 seq) := HGt.out.cell 10
        have c11 : wt.cell? ⟨g, 11, none⟩ = some (.int .u64 seq) := HGt.out.cell 11
        have f10 := HGt.out.frozen 10
        have f11 := HGt.out.frozen 11
        go_region
        go_wp2_with fail
        go_ret
        have hgE := ((HGt.out.set_ 10 (.int .u64 seq)).set_ 11 (.int .u64 seq)).drew
        have hcE := (HCt.out.set_ g 10 (.int .u64 seq) (.inl rfl)).set_ g 11 (.int .u64 seq) (.inl rfl)
        refine ⟨rfl, F1, ?_, HCG.out.trans (Chg.drewC (hcE.more fun k _ hk => by rw [hk]; exact hgF)), HF1.out⟩
        have := HP.out.nums (w7 := ((wt.setCell ⟨g, 10, none⟩ (.int .u64 seq)).setCell ⟨g, 11, none⟩ (.int .u64 seq)).drew) sz seq seq (Nat.le_trans hcE.size (Nat.le_refl _)) (fun k hk hl => hcE.block k hl hk) hgE
        rw [← HVV.out,← HS1.out, ← HFN.out]
        exact this
      · have hdo : ((S1.n : Int) == 1) = false := by rw [beq_eq_false_iff_ne]; omega
        go_wp2_with fail
        have HFN : Hid (({ S1 with size := sz, first := min S1.first seq, last := max S1.last seq } : TS) = S1.fin seq key.size vv.size) := by rw [HSZ.out]; unfold TS.fin; rw [if_neg hone, if_neg hone]; rfl
        have HGt := HG9
        have HCt := HC9
        clear c10 c11 f10 f11 HG9 HC9 hdo hone
        generalize w9 = wt at *
        have hgF : g ∈ F := hgF0
        have c10 : wt.cell? ⟨g, 10, none⟩ = some (.int .u64 S1.first) := HGt.out.cell 10
        have c11 : wt.cell? ⟨g, 11, none⟩ = some (.int .u64 S1.last) := HGt.out.cell 11
        have f10 := HGt.out.frozen 10
        have f11 := HGt.out.frozen 11
        go_region
        go_wp2_with fail
        go_ret
        have hgE := ((HGt.out.set_ 10 (.int .u64 (min S1.first seq))).set_ 11 (.int .u64 (max S1.last seq))).drew
        have hcE := (HCt.out.set_ g 10 (.int .u64 (min S1.first seq)) (.inl rfl)).set_ g 11 (.int .u64 (max S1.last seq)) (.inl rfl)
        refine ⟨rfl, F1, ?_, HCG.out.trans (Chg.drewC (hcE.more fun k _ hk => by rw [hk]; exact hgF)), HF1.out⟩
        have := HP.out.nums (w7 := ((wt.setCell ⟨g, 10, none⟩ (.int .u64 (min S1.first seq))).setCell ⟨g, 11, none⟩ (.int .u64 (max S1.last seq))).drew) sz (min S1.first seq) (max S1.last seq) (Nat.le_trans hcE.size (Nat.le_refl _)) (fun k hk hl => hcE.block k hl hk) hgE
        rw [← HVV.out,← HS1.out, ← HFN.out]
        exact this
    exact AllReadyH.nil
  exact AllReadyH.nil
set_option maxHeartbeats 4000000 in
set_option maxRecDepth 100000 in
theorem mAdd_del_new {w : World} {g : Nat} {how : Int} {hl : List UInt8} {S : TS} {F H : List Nat} (ht : Tab w g how hl S F H) (hH : ∀ k ∈ H, k < w.heap.size) (hll : hl.length ≤ 1000000000000000) (hs : SortE how S.l) (seq : Int) (f : Int) (key v : ByteArray) (h : seq ≤ 72057594037927935) (hc : chkR ⟨f, 0, key, v⟩ = 0) (hf : S.n < 8192) (hth : thereE how S.l ⟨key, seq, 0⟩ = false) :
    Calls Try.prog 9 #[.pointer (some ⟨g, 0, none⟩), .int .u64 seq, .agg #[.int .u32 f, .int .i64 0, .string key, .string v]] w fun e w' => e = .returned (.int .i64 0) ∧
      AddP w g how hl ({ S with l := insE S.l (posE how S.l ⟨key, seq, 0⟩) ⟨⟨key, seq, 0⟩, ⟨#[]⟩⟩ }.fin seq key.size (⟨#[]⟩ : ByteArray).size) F H w' := by
  have hvk := chk_size hc
  have HS := Lib.hid hs
  have HTH := Lib.hid hth
  have HHH := Lib.hid hH
  clear hs hth hH
  have hd : decide (72057594037927935 < seq) = false := by simpa using h
  have HC := fun w => bChk_any ⟨f, 0, key, v⟩ w
  dsimp only at HC ⊢
  rw [hc] at HC
  have HCC := Lib.hid HC
  have HT := Lib.hid ht
  have hd2 : decide ((8192 : Int) ≤ (S.n : Int)) = false := by simp; omega
  have hn : S.n ≤ 1000000 := by omega
  have hblk : Blk (w.alloc (.cells #[.int .u32 f, .int .i64 0, .string key, .string v] 33)) w.heap.size 33 #[.int .u32 f, .int .i64 0, .string key, .string v] := Blk.new _ _ _
  have HBK := Lib.hid hblk
  clear h hc HC ht hblk
  go_enter Try.func9, Try.ntmps9
  go_wp2_with fail
  refine (HCC.out _).mono ?_
  rintro e w1 ⟨rfl, hb1⟩
  have HB1 := Lib.hid (((Below.refl _ w).alloc (Nat.le_refl _) _).trans (hb1.mono (by simp)))
  have HK1 := Lib.hid (HBK.out.below hb1 (by simp))
  clear hb1 HBK
  go_wp2_with fail
  refine (mLen_any (HT.out.below HB1.out) hn).mono ?_
  rintro e w2 ⟨rfl, nq, hnq⟩
  have hb2 : Below w1.heap.size w1 w2 := by rw [hnq]; exact below_drewN (Below.refl _ _) nq
  have HB2 := Lib.hid (HB1.out.trans (hb2.mono HB1.out.size))
  have HK2 := Lib.hid (HK1.out.below hb2 HK1.out.lt)
  have HT2 := Lib.hid (HT.out.below HB2.out)
  clear hb2 hnq nq HB1 HK1 HCC
  have k0 : w2.cell? ⟨w.heap.size, 0, none⟩ = some (.int .u32 f) := HK2.out.cell 0
  have k1 : w2.cell? ⟨w.heap.size, 1, none⟩ = some (.int .i64 0) := HK2.out.cell 1
  have k2 : w2.cell? ⟨w.heap.size, 2, none⟩ = some (.string key) := HK2.out.cell 2
  have k3 : w2.cell? ⟨w.heap.size, 3, none⟩ = some (.string v) := HK2.out.cell 3
  have f3 := HK2.out.frozen 3
  obtain ⟨hb, hA, hc, tv, hu, hs, hk, hval, N, hp2⟩ := HT.out.parts
  obtain ⟨P, Q, rfl, hPe, hQe, hP, hQ, hne, -⟩ := split_nodes hp2.nl HS.out ⟨key, seq, 0⟩
  have hnd : (g :: hb :: blksOf (P ++ Q)).Nodup := by have := hp2.nd; rw [hp2.fp, List.nodup_append] at this; exact this.1
  have hnl : (P ++ Q).length ≤ 1000000 := by
    have h1 := congrArg List.length hp2.nl
    have h2 : S.n = S.l.length + S.t.length := rfl
    rw [List.length_map] at h1; omega
  have HPT := Lib.hid (fun w' (h' : Below w.heap.size w w') => mPut_new w' g hb hc w'.heap.size hA hl how hu hs hk hval tv _ _ _ P Q ⟨⟨key, seq, 0⟩, ⟨#[]⟩⟩ (hp2.below h').tbl hP hQ (hne HTH.out) hnd hnl hll (hp2.below h').bs (Nat.le_refl _))
  dsimp only at HPT
  have hgw : g < w.heap.size := hp2.lt g hp2.gF
  have hgF0 := hp2.gF
  have HP2 := Lib.hid hp2
  have HB3 : Hid (Below w.heap.size w (w2.setCell ⟨w.heap.size, 3, none⟩ (.string ⟨#[]⟩))) := HB2.out.setCell (p := ⟨w.heap.size, 3, none⟩) (Nat.le_refl _) _
  have HK3 : Hid (Blk (w2.setCell ⟨w.heap.size, 3, none⟩ (.string ⟨#[]⟩)) w.heap.size 33 #[.int .u32 f, .int .i64 0, .string key, .string ⟨#[]⟩]) := HK2.out.set_ 3 (.string ⟨#[]⟩)
  clear hp2 hP hQ hne hnd hnl
  go_wp2_with fail
  refine (HPT.out _ HB3.out).mono ?_
  rintro e w4 ⟨rfl, m, hm1, hm2, hm3, hm4, htb4, hcg4⟩
  have hk4 : Blk w4 w.heap.size 33 #[.int .u32 f, .int .i64 0, .string key, .string ⟨#[]⟩] := (hcg4.block _ HK3.out.lt fun hf => by
    have h9 : ∀ k, skF g hb (P ++ Q) k → k ∈ F := fun k hk => by
      rw [HP2.out.fp]
      rcases hk with rfl | rfl | hk
      · simp
      · simp
      · exact List.mem_append_left _ (List.mem_cons_of_mem _ (List.mem_cons_of_mem _ hk))
    have := HP2.out.lt _ (h9 _ hf); omega).trans HK3.out
  have HA := Lib.hid (AddP.from HB3.out HP2.out.lt ((HP2.out.below HB3.out).putE (l' := insE S.l (posE how S.l ⟨key, seq, 0⟩) ⟨⟨key, seq, 0⟩, ⟨#[]⟩⟩) (fun k hk => Nat.lt_of_lt_of_le (HHH.out k hk) HB3.out.size) rfl (by rw [hPe, hQe, hm1]; rfl) hm2 hm3 hm4 htb4 hcg4))
  have HK := Lib.hid hk4
  have hn1 : S.n + 1 = ({ S with l := insE S.l (posE how S.l ⟨key, seq, 0⟩) ⟨⟨key, seq, 0⟩, ⟨#[]⟩⟩ } : TS).n := by
    show S.l.length + S.t.length + 1 = (insE S.l _ _).length + S.t.length
    rw [insE_len _ _ _ (posE_le _ _ _)]; omega
  obtain ⟨vv, hvv⟩ : ∃ vv : ByteArray, vv = ⟨#[]⟩ := ⟨_, rfl⟩
  have hv1 : vv.size ≤ 100000 ∧ key.size ≤ 100000 := by rw [hvv]; exact hvk
  rw [← hvv] at HK HA hn1
  have HVV := Lib.hid hvv
  obtain ⟨S1, hS1⟩ : ∃ S1 : TS, S1 = { S with l := insE S.l (posE how S.l ⟨key, seq, 0⟩) ⟨⟨key, seq, 0⟩, vv⟩ } := ⟨_, rfl⟩
  rw [← hS1] at HA hn1
  have HS1 := Lib.hid hS1
  obtain ⟨wc, rfl⟩ : ∃ wc, wc = w4 := ⟨_, rfl⟩
  clear hS1 hvv hk4 htb4 hcg4 hm1 hm2 hm3 hm4 m HP2 HPT hPe hQe hvk k0 k1 k2 k3 f3 HB3 HK3
  clear hb hA hc tv hu hs hk hval
  obtain ⟨F1, ht1, hcg1, hF1⟩ := HA.out
  obtain ⟨hb, hA, hc, tv, hu, hs, hk, hval, N, hp1⟩ := ht1.parts
  have HP := Lib.hid hp1
  have HCG := Lib.hid hcg1
  have HF1 := Lib.hid hF1
  have c9 : wc.cell? ⟨g, 9, none⟩ = some (.int .i64 S1.size) := hp1.tbl.blk.cell 9
  have f9 := hp1.tbl.blk.frozen 9
  have r2 : wc.cell? ⟨w.heap.size, 2, none⟩ = some (.string key) := HK.out.cell 2
  have r3 : wc.cell? ⟨w.heap.size, 3, none⟩ = some (.string vv) := HK.out.cell 3
  clear ht1 hcg1 hF1 hp1 HA
  go_wp2_with fail
  refine wp_region_held_drew (S := fun w' => w'.cell? ⟨w.heap.size, 2, none⟩ = some (.string key) ∧ w'.cell? ⟨w.heap.size, 3, none⟩ = some (.string vv)) (by kernel_rfl) ⟨r2, r3⟩ (fun hHeld => ?_)
  refine wpAnyH_take (i := 0) (v := ?_) rfl (by kernel_rfl) (by kernel_rfl) (by kernel_rfl) (fun _ _ _ h => h) (Or.inl ⟨by rfl, ?_⟩) (by assumption) ?_
  rotate_left
  · (intro w hSw; obtain ⟨l0, l1⟩ := hSw; go_simp; try (with_reducible rfl))
  try simp only [Act.put, List.getElem_toArray, List.getElem_cons_succ, List.getElem_cons_zero, List.setIfInBounds_toArray, List.set_cons_zero, List.set_cons_succ]
  refine wpAnyH_take (i := 1) (v := ?_) rfl (by kernel_rfl) (by kernel_rfl) (by kernel_rfl) (fun _ _ _ h => h) (Or.inl ⟨by rfl, ?_⟩) (by assumption) ?_
  rotate_left
  · (intro w hSw; obtain ⟨l0, l1⟩ := hSw; go_simp; try (with_reducible rfl))
  try simp only [Act.put, List.getElem_toArray, List.getElem_cons_succ, List.getElem_cons_zero, List.setIfInBounds_toArray, List.set_cons_zero, List.set_cons_succ]
  refine wpAnyH_take (i := 2) (v := ?_) rfl (by kernel_rfl) (by kernel_rfl) (by kernel_rfl) (fun _ _ _ h => h) (Or.inl ⟨by rfl, ?_⟩) (by assumption) ?_
  rotate_left
  · (intro w hSw; obtain ⟨l0, l1⟩ := hSw; go_simp; try (with_reducible rfl))
  try simp only [Act.put, List.getElem_toArray, List.getElem_cons_succ, List.getElem_cons_zero, List.setIfInBounds_toArray, List.set_cons_zero, List.set_cons_succ]
  refine wpAnyH_take (i := 4) (v := ?_) rfl (by kernel_rfl) (by kernel_rfl) (by kernel_rfl) (fun _ _ _ h => h) (Or.inl ⟨by rfl, ?_⟩) (by assumption) ?_
  rotate_left
  · (intro w hSw; obtain ⟨l0, l1⟩ := hSw; go_simp; try (with_reducible rfl))
  try simp only [Act.put, List.getElem_toArray, List.getElem_cons_succ, List.getElem_cons_zero, List.setIfInBounds_toArray, List.set_cons_zero, List.set_cons_succ]
  refine wpAnyH_take (i := 5) (v := ?_) rfl (by kernel_rfl) (by kernel_rfl) (by kernel_rfl) (fun _ _ _ h => h) (Or.inl ⟨by rfl, ?_⟩) (by assumption) ?_
  rotate_left
  · (intro w hSw; obtain ⟨l0, l1⟩ := hSw; go_simp; try (with_reducible rfl))
  try simp only [Act.put, List.getElem_toArray, List.getElem_cons_succ, List.getElem_cons_zero, List.setIfInBounds_toArray, List.set_cons_zero, List.set_cons_succ]
  refine wpAnyH_take (i := 6) (v := ?_) rfl (by kernel_rfl) (by kernel_rfl) (by kernel_rfl) (fun _ _ _ h => h) (Or.inl ⟨by rfl, ?_⟩) (by assumption) ?_
  rotate_left
  · (intro w hSw; obtain ⟨l0, l1⟩ := hSw; go_simp; try (with_reducible rfl))
  try simp only [Act.put, List.getElem_toArray, List.getElem_cons_succ, List.getElem_cons_zero, List.setIfInBounds_toArray, List.set_cons_zero, List.set_cons_succ]
  refine wpAnyH_take (i := 7) (v := ?_) rfl (by kernel_rfl) (by kernel_rfl) (by kernel_rfl) (fun _ _ _ h => h) (Or.inl ⟨by rfl, ?_⟩) (by assumption) ?_
  rotate_left
  · (intro w hSw; obtain ⟨l0, l1⟩ := hSw; go_simp; try (with_reducible rfl))
  try simp only [Act.put, List.getElem_toArray, List.getElem_cons_succ, List.getElem_cons_zero, List.setIfInBounds_toArray, List.set_cons_zero, List.set_cons_succ]
  refine wpAnyH_take (i := 8) (v := ?_) rfl (by kernel_rfl) (by kernel_rfl) (by kernel_rfl) (fun _ _ _ h => h) (Or.inl ⟨by rfl, ?_⟩) (by assumption) ?_
  rotate_left
  · (intro w hSw; obtain ⟨l0, l1⟩ := hSw; go_simp; try (with_reducible rfl))
  try simp only [Act.put, List.getElem_toArray, List.getElem_cons_succ, List.getElem_cons_zero, List.setIfInBounds_toArray, List.set_cons_zero, List.set_cons_succ]
  refine wpAnyH_take (i := 9) (v := ?_) rfl (by kernel_rfl) (by kernel_rfl) (by kernel_rfl) (fun _ _ _ h => h) (Or.inl ⟨by rfl, ?_⟩) (by assumption) ?_
  rotate_left
  · (intro w hSw; obtain ⟨l0, l1⟩ := hSw; go_simp; try (with_reducible rfl))
  try simp only [Act.put, List.getElem_toArray, List.getElem_cons_succ, List.getElem_cons_zero, List.setIfInBounds_toArray, List.set_cons_zero, List.set_cons_succ]
  refine wpAnyH_take (i := 10) (v := ?_) rfl (by kernel_rfl) (by kernel_rfl) (by kernel_rfl) (fun _ _ _ h => h) (Or.inl ⟨by rfl, ?_⟩) (by assumption) ?_
  rotate_left
  · (intro w hSw; obtain ⟨l0, l1⟩ := hSw; go_simp; try (with_reducible rfl))
  try simp only [Act.put, List.getElem_toArray, List.getElem_cons_succ, List.getElem_cons_zero, List.setIfInBounds_toArray, List.set_cons_zero, List.set_cons_succ]
  refine wpAnyH_take (i := 11) (v := ?_) rfl (by kernel_rfl) (by kernel_rfl) (by kernel_rfl) (fun _ _ _ h => h) (Or.inl ⟨by rfl, ?_⟩) (by assumption) ?_
  rotate_left
  · (intro w hSw; obtain ⟨l0, l1⟩ := hSw; go_simp; try (with_reducible rfl))
  try simp only [Act.put, List.getElem_toArray, List.getElem_cons_succ, List.getElem_cons_zero, List.setIfInBounds_toArray, List.set_cons_zero, List.set_cons_succ]
  refine wpAnyH_ready (rs := [3]) (by kernel_rfl) (by simp) ?_
  refine AllReadyH.cons rfl (fun K hK => ?_) ?_
  · go_simp
    refine hK.out _ _ hHeld (fun hHeld => ?_)
    clear hK K
    try simp only [Act.put, List.getElem_toArray, List.getElem_cons_succ, List.getElem_cons_zero, List.setIfInBounds_toArray, List.set_cons_zero, List.set_cons_succ]
    refine wpAnyH_take (i := 12) (v := ?_) rfl (by kernel_rfl) (by kernel_rfl) (by kernel_rfl) (fun _ _ _ h => h) (Or.inl ⟨by rfl, ?_⟩) (by assumption) ?_
    rotate_left
    · (intro w hSw; (try dsimp only at hSw); go_simp; try (with_reducible rfl))
    try simp only [Act.put, List.getElem_toArray, List.getElem_cons_succ, List.getElem_cons_zero, List.setIfInBounds_toArray, List.set_cons_zero, List.set_cons_succ]
    refine wpAnyH_take (i := 13) (v := ?_) rfl (by kernel_rfl) (by kernel_rfl) (by kernel_rfl) (fun _ _ _ h => h) (Or.inl ⟨by rfl, ?_⟩) (by assumption) ?_
    rotate_left
    · (intro w hSw; (try dsimp only at hSw); go_simp; try (with_reducible rfl))
    try simp only [Act.put, List.getElem_toArray, List.getElem_cons_succ, List.getElem_cons_zero, List.setIfInBounds_toArray, List.set_cons_zero, List.set_cons_succ]
    refine wpAnyH_take (i := 14) (v := ?_) rfl (by kernel_rfl) (by kernel_rfl) (by kernel_rfl) (fun _ _ _ h => h) (Or.inl ⟨by rfl, ?_⟩) (by assumption) ?_
    rotate_left
    · (intro w hSw; (try dsimp only at hSw); go_simp; try (with_reducible rfl))
    try simp only [Act.put, List.getElem_toArray, List.getElem_cons_succ, List.getElem_cons_zero, List.setIfInBounds_toArray, List.set_cons_zero, List.set_cons_succ]
    refine wpAnyH_ready (rs := [15]) (by kernel_rfl) (by simp) ?_
    refine AllReadyH.cons rfl (fun K hK => ?_) ?_
    · go_simp
      refine hK.out _ _ ⟨((HK.out.far (p := ⟨g, 9, none⟩) (by show w.heap.size ≠ g; omega) _).cell 2), ((HK.out.far (p := ⟨g, 9, none⟩) (by show w.heap.size ≠ g; omega) _).cell 3)⟩ (fun hHeld => ?_)
      clear hK K
      try simp only [Act.put, List.getElem_toArray, List.getElem_cons_succ, List.getElem_cons_zero, List.setIfInBounds_toArray, List.set_cons_zero, List.set_cons_succ]
      refine wpAnyH_done (by kernel_rfl) ?_ _
      have hsz : IntKind.i64.wrap (S1.size + IntKind.i64.wrap (IntKind.i64.wrap ((key.size : Int) + (vv.size : Int)) + 16)) = IntKind.i64.wrap (S1.size + (key.size : Int) + (vv.size : Int) + 16) := by
        rw [i64_in ((key.size : Int) + (vv.size : Int)) (by omega), i64_in ((key.size : Int) + (vv.size : Int) + 16) (by omega)]
        congr 1; omega
      rw [hsz]
      obtain ⟨sz, hsz2⟩ : ∃ sz, sz = IntKind.i64.wrap (S1.size + (key.size : Int) + (vv.size : Int) + 16) := ⟨_, rfl⟩
      rw [← hsz2]
      have HSZ := Lib.hid hsz2
      have hg8 : Blk (wc.setCell ⟨g, 9, none⟩ (.int .i64 sz)).drew g 68 #[.int .i64 how, .slice hA hl.length hc, hu, hs, hk, hval, .slice (some ⟨hb, 0, none⟩) 12 12, .int .i64 (N.length : Nat), tv, .int .i64 sz, .int .u64 S1.first, .int .u64 S1.last] := (HP.out.tbl.blk.set_ 9 (.int .i64 sz)).drew
      have ho8 : ∀ k : Nat, k ≠ g → (wc.setCell ⟨g, 9, none⟩ (.int .i64 sz)).drew.heap[k]? = wc.heap[k]? := fun k hk => Below.heap_setCell wc _ _ k hk
      have hcz : Chg wc (wc.setCell ⟨g, 9, none⟩ (.int .i64 sz)).drew (fun k => k = g) := ⟨rfl, rfl, rfl, by simp, fun k _ hk => ho8 k hk⟩
      clear hsz hsz2 c9 f9 r2 r3 hHeld
      generalize (wc.setCell ⟨g, 9, none⟩ (.int .i64 sz)).drew = w8 at *
      have HT8 := Lib.hid (HP.out.nums sz S1.first S1.last hcz.size (fun k hk _ => ho8 k hk) hg8)
      have hn8 : ({ S1 with size := sz, first := S1.first, last := S1.last } : TS).n ≤ 1000000 := by show S1.n ≤ 1000000; omega
      have HG8 := Lib.hid hg8
      have HC8 := Lib.hid hcz
      clear hg8 ho8 hcz
      go_wp2_with fail
      refine (mLen_any HT8.out hn8).mono ?_
      rintro e w9 ⟨rfl, nq, hnq⟩
      have hb9 : Below w8.heap.size w8 w9 := by rw [hnq]; exact below_drewN (Below.refl _ _) nq
      have HG9 := Lib.hid (HG8.out.below hb9 HG8.out.lt)
      have HC9 := Lib.hid (HC8.out.next hb9)
      have hnn : ({ S1 with size := sz, first := S1.first, last := S1.last } : TS).n = S1.n := rfl
      rw [hnn]
      clear hb9 hnq HT8 HG8 HC8 hn8 hnn
      have c10 : w9.cell? ⟨g, 10, none⟩ = some (.int .u64 S1.first) := HG9.out.cell 10
      have c11 : w9.cell? ⟨g, 11, none⟩ = some (.int .u64 S1.last) := HG9.out.cell 11
      have f10 := HG9.out.frozen 10
      have f11 := HG9.out.frozen 11
      by_cases hone : S1.n = 1
      · have hdo : ((S1.n : Int) == 1) = true := by rw [hone]; rfl
        go_wp2_with fail
        have HGt := Lib.hid ((HG9.out.set_ 10 (.int .u64 seq)).set_ 11 (.int .u64 seq))
        have HCt := Lib.hid ((HC9.out.set_ g 10 (.int .u64 seq) (.inl rfl)).set_ g 11 (.int .u64 seq) (.inl rfl))
        have HFN : Hid (({ S1 with size := sz, first := seq, last := seq } : TS) = S1.fin seq key.size vv.size) := by
          have e1 : min seq seq = seq := by omega
          have e2 : max seq seq = seq := by omega
          rw [HSZ.out]; unfold TS.fin; rw [if_pos hone, if_pos hone]; dsimp only; rw [e1, e2]; rfl
        clear c10 c11 f10 f11 HG9 HC9 hdo hone
        generalize (w9.setCell ⟨g, 10, none⟩ (.int .u64 seq)).setCell ⟨g, 11, none⟩ (.int .u64 seq) = wt at *
        have hgF : g ∈ F := hgF0
        have c10 : wt.cell? ⟨g, 10, none⟩ = some (.int .u64 seq) := HGt.out.cell 10
        have c11 : wt.cell? ⟨g, 11, none⟩ = some (.int .u64 seq) := HGt.out.cell 11
        have f10 := HGt.out.frozen 10
        have f11 := HGt.out.frozen 11
        go_region
        go_wp2_with fail
        go_ret
        have hgE := ((HGt.out.set_ 10 (.int .u64 seq)).set_ 11 (.int .u64 seq)).drew
        have hcE := (HCt.out.set_ g 10 (.int .u64 seq) (.inl rfl)).set_ g 11 (.int .u64 seq) (.inl rfl)
        refine ⟨rfl, F1, ?_, HCG.out.trans (Chg.drewC (hcE.more fun k _ hk => by rw [hk]; exact hgF)), HF1.out⟩
        have := HP.out.nums (w7 := ((wt.setCell ⟨g, 10, none⟩ (.int .u64 seq)).setCell ⟨g, 11, none⟩ (.int .u64 seq)).drew) sz seq seq (Nat.le_trans hcE.size (Nat.le_refl _)) (fun k hk hl => hcE.block k hl hk) hgE
        rw [← HVV.out,← HS1.out, ← HFN.out]
        exact this
      · have hdo : ((S1.n : Int) == 1) = false := by rw [beq_eq_false_iff_ne]; omega
        go_wp2_with fail
        have HFN : Hid (({ S1 with size := sz, first := min S1.first seq, last := max S1.last seq } : TS) = S1.fin seq key.size vv.size) := by rw [HSZ.out]; unfold TS.fin; rw [if_neg hone, if_neg hone]; rfl
        have HGt := HG9
        have HCt := HC9
        clear c10 c11 f10 f11 HG9 HC9 hdo hone
        generalize w9 = wt at *
        have hgF : g ∈ F := hgF0
        have c10 : wt.cell? ⟨g, 10, none⟩ = some (.int .u64 S1.first) := HGt.out.cell 10
        have c11 : wt.cell? ⟨g, 11, none⟩ = some (.int .u64 S1.last) := HGt.out.cell 11
        have f10 := HGt.out.frozen 10
        have f11 := HGt.out.frozen 11
        go_region
        go_wp2_with fail
        go_ret
        have hgE := ((HGt.out.set_ 10 (.int .u64 (min S1.first seq))).set_ 11 (.int .u64 (max S1.last seq))).drew
        have hcE := (HCt.out.set_ g 10 (.int .u64 (min S1.first seq)) (.inl rfl)).set_ g 11 (.int .u64 (max S1.last seq)) (.inl rfl)
        refine ⟨rfl, F1, ?_, HCG.out.trans (Chg.drewC (hcE.more fun k _ hk => by rw [hk]; exact hgF)), HF1.out⟩
        have := HP.out.nums (w7 := ((wt.setCell ⟨g, 10, none⟩ (.int .u64 (min S1.first seq))).setCell ⟨g, 11, none⟩ (.int .u64 (max S1.last seq))).drew) sz (min S1.first seq) (max S1.last seq) (Nat.le_trans hcE.size (Nat.le_refl _)) (fun k hk hl => hcE.block k hl hk) hgE
        rw [← HVV.out,← HS1.out, ← HFN.out]
        exact this
    exact AllReadyH.nil
  exact AllReadyH.nil
end Go.Proofs.Ytodnojpolkdlmaa
