/-
  The walks of Encode and Decode, the program's and the document's.
-/
import Derived.Test.YtkajgpcnodgpcaaCodF
import Derived.Deep.RegionHeld3
import Derived.Deep.DrawnRows
namespace Go.Proofs.Ytkajgpcnodgpcaa
set_option linter.unusedSimpArgs false
open Go.RowKit
attribute [local go_sem ↓] Go.wp_at_zero Go.wp_at_succ

/-- a key's bytes -/
def encB (u : ByteArray) (s k : Nat) : List UInt8 := u.data.toList ++ leB (s * 256 + k) 8
theorem or64k (s k : Nat) (hs : s ≤ 72057594037927935) (hk : k ≤ 2) : bits .or .u64 ((s : Int) * 256) k = ((s * 256 + k : Nat) : Int) := by
  rw [or64 s k (by omega) (by omega)]; congr 1; omega
theorem rFixed8_any (n : Nat) (w : World) (hn : n ≤ 18446744073709551615) :
    Calls Try.prog 60 #[.int .u64 n, .int .i64 8] w fun e w' => ∃ g c, e = .returned (.slice (some ⟨g, 0, none⟩) 8 c) ∧ Below w.heap.size w w' ∧ w.heap.size ≤ g ∧ Own w' w.heap.size 5 1 (.slice (some ⟨g, 0, none⟩) 8 c) 8 ((leB n 8).map byteV) := by
  refine (rFixed_any n 8 w hn (by omega)).mono ?_
  rintro e w' ⟨v, rfl, hb, ho⟩
  obtain ⟨g, c, rfl, hg, _⟩ := ho.form (by omega)
  exact ⟨g, c, rfl, hb, hg, ho⟩
theorem cEncode_bad (u : ByteArray) (s k : Int) (w : World) (hc : chkK ⟨u, s, k⟩ ≠ 0) :
    Calls Try.prog 53 #[.agg #[.string u, .int .u64 s, .int .i64 k]] w fun e w' => e = .returned (.tuple #[.slice none 0 0, .int .i64 (chkK ⟨u, s, k⟩)]) ∧ Below w.heap.size w w' := by
  have hcb : (chkK ⟨u, s, k⟩ != 0) = true := by simpa using hc
  go_enter Try.func53, Try.ntmps53
  go_wp2_with (go_at_call 75; refine (cCheck_any _ _ _ _).mono ?_; rintro e w1 ⟨rfl, hb⟩)
  go_ret2
  exact ⟨ret_two rfl rfl, ((Below.refl _ _).alloc (Nat.le_refl _) _).trans (hb.mono (by simp))⟩
set_option maxHeartbeats 2000000 in
theorem cEncode_ok (u : ByteArray) (s k : Nat) (w : World) (hu : u.size ≤ 1024) (hs : s ≤ 72057594037927935) (hk : k ≤ 2) :
    Calls Try.prog 53 #[.agg #[.string u, .int .u64 s, .int .i64 k]] w fun e w' => ∃ v, e = .returned (.tuple #[v, .int .i64 0]) ∧ Below w.heap.size w w' ∧ Own w' w.heap.size 5 1 v (u.size + 8) ((encB u s k).map byteV) := by
  obtain ⟨i0, hi, hz0, hz1, hz2⟩ := info_parts info_byte
  have hcb : chkK ⟨u, s, k⟩ = 0 := by unfold chkK; dsimp only; rw [if_neg (by omega), if_neg (by omega)]
  have hor := or64k s k hs hk
  go_enter Try.func53, Try.ntmps53
  go_wp2_with (go_at_call 75; refine (cCheck_any _ _ _ _).mono ?_; rw [hcb]; rintro e w1 ⟨rfl, hb⟩)
  have hzw : w.heap.size + 1 ≤ w1.heap.size := by have := hb.size; simp at this; omega
  have hb1 : Below w.heap.size w w1 := ((Below.refl _ _).alloc (Nat.le_refl _) _).trans (hb.mono (by simp))
  have c0 : w1.cell? ⟨w.heap.size, 0, none⟩ = some (.string u) := (hb.cell (p := ⟨w.heap.size, 0, none⟩) (by simp)).trans ((Blk.new w _ _).cell 0)
  have c1 : w1.cell? ⟨w.heap.size, 1, none⟩ = some (.int .u64 s) := (hb.cell (p := ⟨w.heap.size, 1, none⟩) (by simp)).trans ((Blk.new w _ _).cell 1)
  have c2 : w1.cell? ⟨w.heap.size, 2, none⟩ = some (.int .i64 k) := (hb.cell (p := ⟨w.heap.size, 2, none⟩) (by simp)).trans ((Blk.new w _ _).cell 2)
  clear hb
  have HB1 := Lib.hid hb1; clear hb1
  have hkc := fun W => run_cvt (P := Try.prog) W 9 23 5 u Try.underlying9 Try.underlying23 Try.underlying5
  have hw1 : IntKind.u64.wrap ((s : Int) * 256) = (s : Int) * 256 := IntWalk.u64_in _ (by omega)
  have hw2 : IntKind.u64.wrap (k : Int) = (k : Int) := IntWalk.u64_in _ (by omega)
  have he : (u.data.toList.map byteV) ++ ((leB (s * 256 + k) 8).map byteV) = (encB u s k).map byteV := by unfold encB; rw [List.map_append]
  have HE := Lib.hid he; clear he
  have hm8 : u.size + 8 ≤ maxLen := by unfold maxLen; omega
  refine wp_region_held_drew (S := fun w' => w'.cell? ⟨w.heap.size, 0, none⟩ = some (.string u) ∧ w'.cell? ⟨w.heap.size, 1, none⟩ = some (.int .u64 s) ∧ w'.cell? ⟨w.heap.size, 2, none⟩ = some (.int .i64 k)) (by kernel_rfl) ⟨c0, c1, c2⟩ (fun hHeld => ?_)
  refine wpAnyH_take (i := 0) (v := ?_) rfl (by kernel_rfl) (by kernel_rfl) (by kernel_rfl) (fun _ _ _ h => h) (Or.inl ⟨by rfl, ?_⟩) (by assumption) ?_
  rotate_left
  · (intro w hSw; (try dsimp only at hSw); go_simp; try (with_reducible rfl))
  try simp only [Act.put, List.getElem_toArray, List.getElem_cons_succ, List.getElem_cons_zero, List.setIfInBounds_toArray, List.set_cons_zero, List.set_cons_succ]
  refine wpAnyH_take (i := 1) (v := ?_) rfl (by kernel_rfl) (by kernel_rfl) (by kernel_rfl) (fun _ _ _ h => h) (Or.inl ⟨by rfl, ?_⟩) (by assumption) ?_
  rotate_left
  · (intro w hSw; (try dsimp only at hSw); go_simp; try (with_reducible rfl))
  try simp only [Act.put, List.getElem_toArray, List.getElem_cons_succ, List.getElem_cons_zero, List.setIfInBounds_toArray, List.set_cons_zero, List.set_cons_succ]
  refine wpAnyH_take (i := 3) (v := ?_) rfl (by kernel_rfl) (by kernel_rfl) (by kernel_rfl) (fun _ _ _ h => h) (Or.inl ⟨by rfl, ?_⟩) (by assumption) ?_
  rotate_left
  · (intro w hSw; (try dsimp only at hSw); go_simp; try (with_reducible rfl))
  try simp only [Act.put, List.getElem_toArray, List.getElem_cons_succ, List.getElem_cons_zero, List.setIfInBounds_toArray, List.set_cons_zero, List.set_cons_succ]
  refine wpAnyH_take (i := 4) (v := ?_) rfl (by kernel_rfl) (by kernel_rfl) (by kernel_rfl) (fun _ _ _ h => h) (Or.inl ⟨by rfl, ?_⟩) (by assumption) ?_
  rotate_left
  · (intro w hSw; (try dsimp only at hSw); go_simp; try (with_reducible rfl))
  try simp only [Act.put, List.getElem_toArray, List.getElem_cons_succ, List.getElem_cons_zero, List.setIfInBounds_toArray, List.set_cons_zero, List.set_cons_succ]
  refine wpAnyH_take (i := 5) (v := ?_) rfl (by kernel_rfl) (by kernel_rfl) (by kernel_rfl) (fun _ _ _ h => h) (Or.inl ⟨by rfl, ?_⟩) (by assumption) ?_
  rotate_left
  · (intro w hSw; (try dsimp only at hSw); go_simp; try (with_reducible rfl))
  try simp only [Act.put, List.getElem_toArray, List.getElem_cons_succ, List.getElem_cons_zero, List.setIfInBounds_toArray, List.set_cons_zero, List.set_cons_succ]
  refine wpAnyH_take (i := 6) (v := ?_) rfl (by kernel_rfl) (by kernel_rfl) (by kernel_rfl) (fun _ _ _ h => h) (Or.inl ⟨by rfl, ?_⟩) (by assumption) ?_
  rotate_left
  · (intro w hSw; (try dsimp only at hSw); go_simp; try (with_reducible rfl))
  try simp only [Act.put, List.getElem_toArray, List.getElem_cons_succ, List.getElem_cons_zero, List.setIfInBounds_toArray, List.set_cons_zero, List.set_cons_succ]
  refine wpAnyH_take (i := 7) (v := ?_) rfl (by kernel_rfl) (by kernel_rfl) (by kernel_rfl) (fun _ _ _ h => h) (Or.inl ⟨by rfl, ?_⟩) (by assumption) ?_
  rotate_left
  · (intro w hSw; (try dsimp only at hSw); go_simp; try (with_reducible rfl))
  try simp only [Act.put, List.getElem_toArray, List.getElem_cons_succ, List.getElem_cons_zero, List.setIfInBounds_toArray, List.set_cons_zero, List.set_cons_succ]
  refine wpAnyH_take (i := 8) (v := ?_) rfl (by kernel_rfl) (by kernel_rfl) (by kernel_rfl) (fun _ _ _ h => h) (Or.inl ⟨by rfl, ?_⟩) (by assumption) ?_
  rotate_left
  · (intro w hSw; (try dsimp only at hSw); go_simp; try (with_reducible rfl))
  try simp only [Act.put, List.getElem_toArray, List.getElem_cons_succ, List.getElem_cons_zero, List.setIfInBounds_toArray, List.set_cons_zero, List.set_cons_succ]
  refine wpAnyH_take (i := 9) (v := ?_) rfl (by kernel_rfl) (by kernel_rfl) (by kernel_rfl) (fun _ _ _ h => h) (Or.inl ⟨by rfl, ?_⟩) (by assumption) ?_
  rotate_left
  · (intro w hSw; (try dsimp only at hSw); go_simp; try (with_reducible rfl))
  try simp only [Act.put, List.getElem_toArray, List.getElem_cons_succ, List.getElem_cons_zero, List.setIfInBounds_toArray, List.set_cons_zero, List.set_cons_succ]
  refine wpAnyH_ready (rs := [2, 10]) (by kernel_rfl) (by simp) ?_
  refine AllReadyH.cons rfl (fun K hK => ?_) ?_
  · -- the bytes first, then the number
    go_simp
    have hcs := cvtW_size w1.drew u 5
    have hcb := cvtW_below w1.drew u 5
    have hO := cvtW_own (base := w.heap.size) (e := 5) w1.drew u (by show w.heap.size ≤ w1.heap.size; omega) (by unfold maxLen; omega)
    refine hK.out _ _ ⟨(hcb.cell (p := ⟨w.heap.size, 0, none⟩) hzw).trans c0, (hcb.cell (p := ⟨w.heap.size, 1, none⟩) hzw).trans c1, (hcb.cell (p := ⟨w.heap.size, 2, none⟩) hzw).trans c2⟩ (fun hHeld => ?_)
    have hBB : Below w.heap.size w (cvtW w1.drew u 5) := HB1.out.drew.trans (hcb.mono (show w.heap.size ≤ w1.heap.size by omega))
    change Own _ w.heap.size 5 1 (.slice (some ⟨w1.heap.size, 0, none⟩) u.size (cvtC w1.drew u 5)) _ _ at hO
    change _ = w1.heap.size + 1 at hcs
    clear hK K
    try simp only [Act.put, List.getElem_toArray, List.getElem_cons_succ, List.getElem_cons_zero, List.setIfInBounds_toArray, List.set_cons_zero, List.set_cons_succ]
    generalize cvtW w1.drew u 5 = wc at *
    generalize cvtC w1.drew u 5 = cc at *
    clear hkc hcb
    refine wpAnyH_ready (rs := [10]) (by kernel_rfl) (by simp) ?_
    refine AllReadyH.cons rfl (fun K hK => ?_) ?_
    · go_simp
      refine (cFixed64_any (s * 256 + k) _ (by omega)).mono ?_
      rintro e w2 ⟨g, c, rfl, hb2, hg2, ho2⟩
      have hzc := hb2.size
      refine hK.out _ _ ⟨(hb2.cell (p := ⟨w.heap.size, 0, none⟩) (by show w.heap.size < wc.heap.size; omega)).trans hHeld.1, (hb2.cell (p := ⟨w.heap.size, 1, none⟩) (by show w.heap.size < wc.heap.size; omega)).trans hHeld.2.1, (hb2.cell (p := ⟨w.heap.size, 2, none⟩) (by show w.heap.size < wc.heap.size; omega)).trans hHeld.2.2⟩ (fun hHeld => ?_)
      have hO2 := hO.keep hb2 (Nat.le_refl _)
      have hBB2 := hBB.trans (hb2.mono (show w.heap.size ≤ wc.heap.size by omega))
      clear hK K
      try simp only [Act.put, List.getElem_toArray, List.getElem_cons_succ, List.getElem_cons_zero, List.setIfInBounds_toArray, List.set_cons_zero, List.set_cons_succ]
      refine wpAnyH_ready (rs := [11]) (by kernel_rfl) (by simp) ?_
      refine AllReadyH.cons rfl (fun K hK => ?_) ?_
      · refine step_append w2 rfl (.tmp 12) (.tmp 20) 23 23 rfl w.heap.size 5 i0 (.int .u8 0) 1 1 Try.underlying23 hi hz0 hz1 hz2 rfl (by decide) _ u.size _ rfl hO2 _ 8 ((leB (s * 256 + k) 8).map byteV) rfl (Src.slice _ Try.underlying23 (by simp [leB_len]) ho2.rd') (by simp [byteV, Value.oneCell']) hm8 (by omega) (by omega) ?_
        intro v' w3 hO3 hG3 hl3
        have hne : ∀ x : Nat, x = w.heap.size → some x ≠ (Value.slice (some ⟨w1.heap.size, 0, none⟩) u.size cc).ownBlock := fun x hx h => by simp [Value.ownBlock] at h; omega
        refine hK.out _ _ ⟨(hG3.cell_far ⟨w.heap.size, 0, none⟩ (by show w.heap.size < w2.heap.size; omega) (hne _ rfl)).trans hHeld.1, (hG3.cell_far ⟨w.heap.size, 1, none⟩ (by show w.heap.size < w2.heap.size; omega) (hne _ rfl)).trans hHeld.2.1, (hG3.cell_far ⟨w.heap.size, 2, none⟩ (by show w.heap.size < w2.heap.size; omega) (hne _ rfl)).trans hHeld.2.2⟩ (fun hHeld => ?_)
        have hBB3 := below_append hBB2 hO2 (Nat.le_refl _) (by omega) hG3
        clear hK K
        try simp only [Act.put, List.getElem_toArray, List.getElem_cons_succ, List.getElem_cons_zero, List.setIfInBounds_toArray, List.set_cons_zero, List.set_cons_succ]
        refine wpAnyH_take (i := 12) (v := ?_) rfl (by kernel_rfl) (by kernel_rfl) (by kernel_rfl) (fun _ _ _ h => h) (Or.inl ⟨by rfl, ?_⟩) (by assumption) ?_
        rotate_left
        · (intro w hSw; (try dsimp only at hSw); go_simp; try (with_reducible rfl))
        try simp only [Act.put, List.getElem_toArray, List.getElem_cons_succ, List.getElem_cons_zero, List.setIfInBounds_toArray, List.set_cons_zero, List.set_cons_succ]
        refine wpAnyH_take (i := 13) (v := ?_) rfl (by kernel_rfl) (by kernel_rfl) (by kernel_rfl) (fun _ _ _ h => h) (Or.inl ⟨by rfl, ?_⟩) (by assumption) ?_
        rotate_left
        · (intro w hSw; (try dsimp only at hSw); go_simp; try (with_reducible rfl))
        try simp only [Act.put, List.getElem_toArray, List.getElem_cons_succ, List.getElem_cons_zero, List.setIfInBounds_toArray, List.set_cons_zero, List.set_cons_succ]
        refine wpAnyH_done (by kernel_rfl) ?_ _
        go_wp2
        go_ret2
        exact ⟨_, ret_two rfl rfl, hBB3, by rw [← HE.out]; exact hO3⟩
      exact AllReadyH.nil
    exact AllReadyH.nil
  refine AllReadyH.cons rfl (fun K hK => ?_) ?_
  · -- the number first, then the bytes
    go_simp
    refine (cFixed64_any (s * 256 + k) _ (by omega)).mono ?_
    rintro e w2 ⟨g, c, rfl, hb2, hg2, ho2⟩
    have hzc : w1.heap.size ≤ w2.heap.size := hb2.size
    refine hK.out _ _ ⟨(hb2.cell (p := ⟨w.heap.size, 0, none⟩) hzw).trans c0, (hb2.cell (p := ⟨w.heap.size, 1, none⟩) hzw).trans c1, (hb2.cell (p := ⟨w.heap.size, 2, none⟩) hzw).trans c2⟩ (fun hHeld => ?_)
    have hBB2 : Below w.heap.size w w2 := HB1.out.drew.trans (hb2.mono (show w.heap.size ≤ w1.heap.size by omega))
    clear hK K
    try simp only [Act.put, List.getElem_toArray, List.getElem_cons_succ, List.getElem_cons_zero, List.setIfInBounds_toArray, List.set_cons_zero, List.set_cons_succ]
    refine wpAnyH_ready (rs := [2]) (by kernel_rfl) (by simp) ?_
    refine AllReadyH.cons rfl (fun K hK => ?_) ?_
    · go_simp
      have hcs := cvtW_size w2 u 5
      have hcb := cvtW_below w2 u 5
      have hO := cvtW_own (base := w.heap.size) (e := 5) w2 u (by omega) (by unfold maxLen; omega)
      refine hK.out _ _ ⟨(hcb.cell (p := ⟨w.heap.size, 0, none⟩) (by show w.heap.size < w2.heap.size; omega)).trans hHeld.1, (hcb.cell (p := ⟨w.heap.size, 1, none⟩) (by show w.heap.size < w2.heap.size; omega)).trans hHeld.2.1, (hcb.cell (p := ⟨w.heap.size, 2, none⟩) (by show w.heap.size < w2.heap.size; omega)).trans hHeld.2.2⟩ (fun hHeld => ?_)
      have hR2 := ho2.rd'.keep hcb
      have hBB3 : Below w.heap.size w (cvtW w2 u 5) := hBB2.trans (hcb.mono (show w.heap.size ≤ w2.heap.size by omega))
      clear hK K
      try simp only [Act.put, List.getElem_toArray, List.getElem_cons_succ, List.getElem_cons_zero, List.setIfInBounds_toArray, List.set_cons_zero, List.set_cons_succ]
      generalize cvtW w2 u 5 = wc at *
      generalize cvtC w2 u 5 = cc at *
      clear hkc hcb
      refine wpAnyH_ready (rs := [11]) (by kernel_rfl) (by simp) ?_
      refine AllReadyH.cons rfl (fun K hK => ?_) ?_
      · refine step_append wc rfl (.tmp 12) (.tmp 20) 23 23 rfl w.heap.size 5 i0 (.int .u8 0) 1 1 Try.underlying23 hi hz0 hz1 hz2 rfl (by decide) _ u.size _ rfl hO _ 8 ((leB (s * 256 + k) 8).map byteV) rfl (Src.slice _ Try.underlying23 (by simp [leB_len]) hR2) (by simp [byteV, Value.oneCell']) hm8 (by omega) (by omega) ?_
        intro v' w3 hO3 hG3 hl3
        have hne : ∀ x : Nat, x = w.heap.size → some x ≠ (Value.slice (some ⟨w2.heap.size, 0, none⟩) u.size cc).ownBlock := fun x hx h => by simp [Value.ownBlock] at h; omega
        refine hK.out _ _ ⟨(hG3.cell_far ⟨w.heap.size, 0, none⟩ (by show w.heap.size < wc.heap.size; omega) (hne _ rfl)).trans hHeld.1, (hG3.cell_far ⟨w.heap.size, 1, none⟩ (by show w.heap.size < wc.heap.size; omega) (hne _ rfl)).trans hHeld.2.1, (hG3.cell_far ⟨w.heap.size, 2, none⟩ (by show w.heap.size < wc.heap.size; omega) (hne _ rfl)).trans hHeld.2.2⟩ (fun hHeld => ?_)
        have hBB4 := below_append hBB3 hO (Nat.le_refl _) (by omega) hG3
        clear hK K
        try simp only [Act.put, List.getElem_toArray, List.getElem_cons_succ, List.getElem_cons_zero, List.setIfInBounds_toArray, List.set_cons_zero, List.set_cons_succ]
        refine wpAnyH_take (i := 12) (v := ?_) rfl (by kernel_rfl) (by kernel_rfl) (by kernel_rfl) (fun _ _ _ h => h) (Or.inl ⟨by rfl, ?_⟩) (by assumption) ?_
        rotate_left
        · (intro w hSw; (try dsimp only at hSw); go_simp; try (with_reducible rfl))
        try simp only [Act.put, List.getElem_toArray, List.getElem_cons_succ, List.getElem_cons_zero, List.setIfInBounds_toArray, List.set_cons_zero, List.set_cons_succ]
        refine wpAnyH_take (i := 13) (v := ?_) rfl (by kernel_rfl) (by kernel_rfl) (by kernel_rfl) (fun _ _ _ h => h) (Or.inl ⟨by rfl, ?_⟩) (by assumption) ?_
        rotate_left
        · (intro w hSw; (try dsimp only at hSw); go_simp; try (with_reducible rfl))
        try simp only [Act.put, List.getElem_toArray, List.getElem_cons_succ, List.getElem_cons_zero, List.setIfInBounds_toArray, List.set_cons_zero, List.set_cons_succ]
        refine wpAnyH_done (by kernel_rfl) ?_ _
        go_wp2
        go_ret2
        exact ⟨_, ret_two rfl rfl, hBB4, by rw [← HE.out]; exact hO3⟩
      exact AllReadyH.nil
    exact AllReadyH.nil
  exact AllReadyH.nil
theorem rEncode_bad (u : ByteArray) (s k : Int) (w : World) (hc : chkK ⟨u, s, k⟩ ≠ 0) :
    Calls Try.prog 57 #[.agg #[.string u, .int .u64 s, .int .i64 k]] w fun e w' => e = .returned (.tuple #[.slice none 0 0, .int .i64 (chkK ⟨u, s, k⟩)]) ∧ Below w.heap.size w w' := by
  have hcb : (chkK ⟨u, s, k⟩ != 0) = true := by simpa using hc
  go_enter Try.func57, Try.ntmps57
  go_wp2_with (go_at_call 30; refine (rCheck_any _ _ _ _).mono ?_; rintro e w1 ⟨rfl, hb⟩)
  go_ret2
  exact ⟨ret_two rfl rfl, ((Below.refl _ _).alloc (Nat.le_refl _) _).trans (hb.mono (by simp))⟩
set_option maxHeartbeats 2000000 in
theorem rEncode_ok (u : ByteArray) (s k : Nat) (w : World) (hu : u.size ≤ 1024) (hs : s ≤ 72057594037927935) (hk : k ≤ 2) :
    Calls Try.prog 57 #[.agg #[.string u, .int .u64 s, .int .i64 k]] w fun e w' => ∃ v, e = .returned (.tuple #[v, .int .i64 0]) ∧ Below w.heap.size w w' ∧ Own w' w.heap.size 5 1 v (u.size + 8) ((encB u s k).map byteV) := by
  obtain ⟨i0, hi, hz0, hz1, hz2⟩ := info_parts info_byte
  have hcb : chkK ⟨u, s, k⟩ = 0 := by unfold chkK; dsimp only; rw [if_neg (by omega), if_neg (by omega)]
  have hor := or64k s k hs hk
  go_enter Try.func57, Try.ntmps57
  go_wp2_with (go_at_call 30; refine (rCheck_any _ _ _ _).mono ?_; rw [hcb]; rintro e w1 ⟨rfl, hb⟩)
  have hzw : w.heap.size + 1 ≤ w1.heap.size := by have := hb.size; simp at this; omega
  have hb1 : Below w.heap.size w w1 := ((Below.refl _ _).alloc (Nat.le_refl _) _).trans (hb.mono (by simp))
  have c0 : w1.cell? ⟨w.heap.size, 0, none⟩ = some (.string u) := (hb.cell (p := ⟨w.heap.size, 0, none⟩) (by simp)).trans ((Blk.new w _ _).cell 0)
  have c1 : w1.cell? ⟨w.heap.size, 1, none⟩ = some (.int .u64 s) := (hb.cell (p := ⟨w.heap.size, 1, none⟩) (by simp)).trans ((Blk.new w _ _).cell 1)
  have c2 : w1.cell? ⟨w.heap.size, 2, none⟩ = some (.int .i64 k) := (hb.cell (p := ⟨w.heap.size, 2, none⟩) (by simp)).trans ((Blk.new w _ _).cell 2)
  clear hb
  have HB1 := Lib.hid hb1; clear hb1
  have hkc := fun W => run_cvt (P := Try.prog) W 9 23 5 u Try.underlying9 Try.underlying23 Try.underlying5
  have hw1 : IntKind.u64.wrap ((s : Int) * 256) = (s : Int) * 256 := IntWalk.u64_in _ (by omega)
  have hw2 : IntKind.u64.wrap (k : Int) = (k : Int) := IntWalk.u64_in _ (by omega)
  have he : (u.data.toList.map byteV) ++ ((leB (s * 256 + k) 8).map byteV) = (encB u s k).map byteV := by unfold encB; rw [List.map_append]
  have HE := Lib.hid he; clear he
  have hm8 : u.size + 8 ≤ maxLen := by unfold maxLen; omega
  refine wp_region_held_drew (S := fun w' => w'.cell? ⟨w.heap.size, 0, none⟩ = some (.string u) ∧ w'.cell? ⟨w.heap.size, 1, none⟩ = some (.int .u64 s) ∧ w'.cell? ⟨w.heap.size, 2, none⟩ = some (.int .i64 k)) (by kernel_rfl) ⟨c0, c1, c2⟩ (fun hHeld => ?_)
  refine wpAnyH_take (i := 0) (v := ?_) rfl (by kernel_rfl) (by kernel_rfl) (by kernel_rfl) (fun _ _ _ h => h) (Or.inl ⟨by rfl, ?_⟩) (by assumption) ?_
  rotate_left
  · (intro w hSw; (try dsimp only at hSw); go_simp; try (with_reducible rfl))
  try simp only [Act.put, List.getElem_toArray, List.getElem_cons_succ, List.getElem_cons_zero, List.setIfInBounds_toArray, List.set_cons_zero, List.set_cons_succ]
  refine wpAnyH_take (i := 1) (v := ?_) rfl (by kernel_rfl) (by kernel_rfl) (by kernel_rfl) (fun _ _ _ h => h) (Or.inl ⟨by rfl, ?_⟩) (by assumption) ?_
  rotate_left
  · (intro w hSw; (try dsimp only at hSw); go_simp; try (with_reducible rfl))
  try simp only [Act.put, List.getElem_toArray, List.getElem_cons_succ, List.getElem_cons_zero, List.setIfInBounds_toArray, List.set_cons_zero, List.set_cons_succ]
  refine wpAnyH_take (i := 3) (v := ?_) rfl (by kernel_rfl) (by kernel_rfl) (by kernel_rfl) (fun _ _ _ h => h) (Or.inl ⟨by rfl, ?_⟩) (by assumption) ?_
  rotate_left
  · (intro w hSw; (try dsimp only at hSw); go_simp; try (with_reducible rfl))
  try simp only [Act.put, List.getElem_toArray, List.getElem_cons_succ, List.getElem_cons_zero, List.setIfInBounds_toArray, List.set_cons_zero, List.set_cons_succ]
  refine wpAnyH_take (i := 4) (v := ?_) rfl (by kernel_rfl) (by kernel_rfl) (by kernel_rfl) (fun _ _ _ h => h) (Or.inl ⟨by rfl, ?_⟩) (by assumption) ?_
  rotate_left
  · (intro w hSw; (try dsimp only at hSw); go_simp; try (with_reducible rfl))
  try simp only [Act.put, List.getElem_toArray, List.getElem_cons_succ, List.getElem_cons_zero, List.setIfInBounds_toArray, List.set_cons_zero, List.set_cons_succ]
  refine wpAnyH_take (i := 5) (v := ?_) rfl (by kernel_rfl) (by kernel_rfl) (by kernel_rfl) (fun _ _ _ h => h) (Or.inl ⟨by rfl, ?_⟩) (by assumption) ?_
  rotate_left
  · (intro w hSw; (try dsimp only at hSw); go_simp; try (with_reducible rfl))
  try simp only [Act.put, List.getElem_toArray, List.getElem_cons_succ, List.getElem_cons_zero, List.setIfInBounds_toArray, List.set_cons_zero, List.set_cons_succ]
  refine wpAnyH_take (i := 6) (v := ?_) rfl (by kernel_rfl) (by kernel_rfl) (by kernel_rfl) (fun _ _ _ h => h) (Or.inl ⟨by rfl, ?_⟩) (by assumption) ?_
  rotate_left
  · (intro w hSw; (try dsimp only at hSw); go_simp; try (with_reducible rfl))
  try simp only [Act.put, List.getElem_toArray, List.getElem_cons_succ, List.getElem_cons_zero, List.setIfInBounds_toArray, List.set_cons_zero, List.set_cons_succ]
  refine wpAnyH_take (i := 7) (v := ?_) rfl (by kernel_rfl) (by kernel_rfl) (by kernel_rfl) (fun _ _ _ h => h) (Or.inl ⟨by rfl, ?_⟩) (by assumption) ?_
  rotate_left
  · (intro w hSw; (try dsimp only at hSw); go_simp; try (with_reducible rfl))
  try simp only [Act.put, List.getElem_toArray, List.getElem_cons_succ, List.getElem_cons_zero, List.setIfInBounds_toArray, List.set_cons_zero, List.set_cons_succ]
  refine wpAnyH_take (i := 8) (v := ?_) rfl (by kernel_rfl) (by kernel_rfl) (by kernel_rfl) (fun _ _ _ h => h) (Or.inl ⟨by rfl, ?_⟩) (by assumption) ?_
  rotate_left
  · (intro w hSw; (try dsimp only at hSw); go_simp; try (with_reducible rfl))
  try simp only [Act.put, List.getElem_toArray, List.getElem_cons_succ, List.getElem_cons_zero, List.setIfInBounds_toArray, List.set_cons_zero, List.set_cons_succ]
  refine wpAnyH_take (i := 9) (v := ?_) rfl (by kernel_rfl) (by kernel_rfl) (by kernel_rfl) (fun _ _ _ h => h) (Or.inl ⟨by rfl, ?_⟩) (by assumption) ?_
  rotate_left
  · (intro w hSw; (try dsimp only at hSw); go_simp; try (with_reducible rfl))
  try simp only [Act.put, List.getElem_toArray, List.getElem_cons_succ, List.getElem_cons_zero, List.setIfInBounds_toArray, List.set_cons_zero, List.set_cons_succ]
  refine wpAnyH_ready (rs := [2, 10]) (by kernel_rfl) (by simp) ?_
  refine AllReadyH.cons rfl (fun K hK => ?_) ?_
  · -- the bytes first, then the number
    go_simp
    have hcs := cvtW_size w1.drew u 5
    have hcb := cvtW_below w1.drew u 5
    have hO := cvtW_own (base := w.heap.size) (e := 5) w1.drew u (by show w.heap.size ≤ w1.heap.size; omega) (by unfold maxLen; omega)
    refine hK.out _ _ ⟨(hcb.cell (p := ⟨w.heap.size, 0, none⟩) hzw).trans c0, (hcb.cell (p := ⟨w.heap.size, 1, none⟩) hzw).trans c1, (hcb.cell (p := ⟨w.heap.size, 2, none⟩) hzw).trans c2⟩ (fun hHeld => ?_)
    have hBB : Below w.heap.size w (cvtW w1.drew u 5) := HB1.out.drew.trans (hcb.mono (show w.heap.size ≤ w1.heap.size by omega))
    change Own _ w.heap.size 5 1 (.slice (some ⟨w1.heap.size, 0, none⟩) u.size (cvtC w1.drew u 5)) _ _ at hO
    change _ = w1.heap.size + 1 at hcs
    clear hK K
    try simp only [Act.put, List.getElem_toArray, List.getElem_cons_succ, List.getElem_cons_zero, List.setIfInBounds_toArray, List.set_cons_zero, List.set_cons_succ]
    generalize cvtW w1.drew u 5 = wc at *
    generalize cvtC w1.drew u 5 = cc at *
    clear hkc hcb
    refine wpAnyH_ready (rs := [10]) (by kernel_rfl) (by simp) ?_
    refine AllReadyH.cons rfl (fun K hK => ?_) ?_
    · go_simp
      refine (rFixed8_any (s * 256 + k) _ (by omega)).mono ?_
      rintro e w2 ⟨g, c, rfl, hb2, hg2, ho2⟩
      have hzc := hb2.size
      refine hK.out _ _ ⟨(hb2.cell (p := ⟨w.heap.size, 0, none⟩) (by show w.heap.size < wc.heap.size; omega)).trans hHeld.1, (hb2.cell (p := ⟨w.heap.size, 1, none⟩) (by show w.heap.size < wc.heap.size; omega)).trans hHeld.2.1, (hb2.cell (p := ⟨w.heap.size, 2, none⟩) (by show w.heap.size < wc.heap.size; omega)).trans hHeld.2.2⟩ (fun hHeld => ?_)
      have hO2 := hO.keep hb2 (Nat.le_refl _)
      have hBB2 := hBB.trans (hb2.mono (show w.heap.size ≤ wc.heap.size by omega))
      clear hK K
      try simp only [Act.put, List.getElem_toArray, List.getElem_cons_succ, List.getElem_cons_zero, List.setIfInBounds_toArray, List.set_cons_zero, List.set_cons_succ]
      refine wpAnyH_ready (rs := [11]) (by kernel_rfl) (by simp) ?_
      refine AllReadyH.cons rfl (fun K hK => ?_) ?_
      · refine step_append w2 rfl (.tmp 12) (.tmp 20) 23 23 rfl w.heap.size 5 i0 (.int .u8 0) 1 1 Try.underlying23 hi hz0 hz1 hz2 rfl (by decide) _ u.size _ rfl hO2 _ 8 ((leB (s * 256 + k) 8).map byteV) rfl (Src.slice _ Try.underlying23 (by simp [leB_len]) ho2.rd') (by simp [byteV, Value.oneCell']) hm8 (by omega) (by omega) ?_
        intro v' w3 hO3 hG3 hl3
        have hne : ∀ x : Nat, x = w.heap.size → some x ≠ (Value.slice (some ⟨w1.heap.size, 0, none⟩) u.size cc).ownBlock := fun x hx h => by simp [Value.ownBlock] at h; omega
        refine hK.out _ _ ⟨(hG3.cell_far ⟨w.heap.size, 0, none⟩ (by show w.heap.size < w2.heap.size; omega) (hne _ rfl)).trans hHeld.1, (hG3.cell_far ⟨w.heap.size, 1, none⟩ (by show w.heap.size < w2.heap.size; omega) (hne _ rfl)).trans hHeld.2.1, (hG3.cell_far ⟨w.heap.size, 2, none⟩ (by show w.heap.size < w2.heap.size; omega) (hne _ rfl)).trans hHeld.2.2⟩ (fun hHeld => ?_)
        have hBB3 := below_append hBB2 hO2 (Nat.le_refl _) (by omega) hG3
        clear hK K
        try simp only [Act.put, List.getElem_toArray, List.getElem_cons_succ, List.getElem_cons_zero, List.setIfInBounds_toArray, List.set_cons_zero, List.set_cons_succ]
        refine wpAnyH_take (i := 12) (v := ?_) rfl (by kernel_rfl) (by kernel_rfl) (by kernel_rfl) (fun _ _ _ h => h) (Or.inl ⟨by rfl, ?_⟩) (by assumption) ?_
        rotate_left
        · (intro w hSw; (try dsimp only at hSw); go_simp; try (with_reducible rfl))
        try simp only [Act.put, List.getElem_toArray, List.getElem_cons_succ, List.getElem_cons_zero, List.setIfInBounds_toArray, List.set_cons_zero, List.set_cons_succ]
        refine wpAnyH_take (i := 13) (v := ?_) rfl (by kernel_rfl) (by kernel_rfl) (by kernel_rfl) (fun _ _ _ h => h) (Or.inl ⟨by rfl, ?_⟩) (by assumption) ?_
        rotate_left
        · (intro w hSw; (try dsimp only at hSw); go_simp; try (with_reducible rfl))
        try simp only [Act.put, List.getElem_toArray, List.getElem_cons_succ, List.getElem_cons_zero, List.setIfInBounds_toArray, List.set_cons_zero, List.set_cons_succ]
        refine wpAnyH_done (by kernel_rfl) ?_ _
        go_wp2
        go_ret2
        exact ⟨_, ret_two rfl rfl, hBB3, by rw [← HE.out]; exact hO3⟩
      exact AllReadyH.nil
    exact AllReadyH.nil
  refine AllReadyH.cons rfl (fun K hK => ?_) ?_
  · -- the number first, then the bytes
    go_simp
    refine (rFixed8_any (s * 256 + k) _ (by omega)).mono ?_
    rintro e w2 ⟨g, c, rfl, hb2, hg2, ho2⟩
    have hzc : w1.heap.size ≤ w2.heap.size := hb2.size
    refine hK.out _ _ ⟨(hb2.cell (p := ⟨w.heap.size, 0, none⟩) hzw).trans c0, (hb2.cell (p := ⟨w.heap.size, 1, none⟩) hzw).trans c1, (hb2.cell (p := ⟨w.heap.size, 2, none⟩) hzw).trans c2⟩ (fun hHeld => ?_)
    have hBB2 : Below w.heap.size w w2 := HB1.out.drew.trans (hb2.mono (show w.heap.size ≤ w1.heap.size by omega))
    clear hK K
    try simp only [Act.put, List.getElem_toArray, List.getElem_cons_succ, List.getElem_cons_zero, List.setIfInBounds_toArray, List.set_cons_zero, List.set_cons_succ]
    refine wpAnyH_ready (rs := [2]) (by kernel_rfl) (by simp) ?_
    refine AllReadyH.cons rfl (fun K hK => ?_) ?_
    · go_simp
      have hcs := cvtW_size w2 u 5
      have hcb := cvtW_below w2 u 5
      have hO := cvtW_own (base := w.heap.size) (e := 5) w2 u (by omega) (by unfold maxLen; omega)
      refine hK.out _ _ ⟨(hcb.cell (p := ⟨w.heap.size, 0, none⟩) (by show w.heap.size < w2.heap.size; omega)).trans hHeld.1, (hcb.cell (p := ⟨w.heap.size, 1, none⟩) (by show w.heap.size < w2.heap.size; omega)).trans hHeld.2.1, (hcb.cell (p := ⟨w.heap.size, 2, none⟩) (by show w.heap.size < w2.heap.size; omega)).trans hHeld.2.2⟩ (fun hHeld => ?_)
      have hR2 := ho2.rd'.keep hcb
      have hBB3 : Below w.heap.size w (cvtW w2 u 5) := hBB2.trans (hcb.mono (show w.heap.size ≤ w2.heap.size by omega))
      clear hK K
      try simp only [Act.put, List.getElem_toArray, List.getElem_cons_succ, List.getElem_cons_zero, List.setIfInBounds_toArray, List.set_cons_zero, List.set_cons_succ]
      generalize cvtW w2 u 5 = wc at *
      generalize cvtC w2 u 5 = cc at *
      clear hkc hcb
      refine wpAnyH_ready (rs := [11]) (by kernel_rfl) (by simp) ?_
      refine AllReadyH.cons rfl (fun K hK => ?_) ?_
      · refine step_append wc rfl (.tmp 12) (.tmp 20) 23 23 rfl w.heap.size 5 i0 (.int .u8 0) 1 1 Try.underlying23 hi hz0 hz1 hz2 rfl (by decide) _ u.size _ rfl hO _ 8 ((leB (s * 256 + k) 8).map byteV) rfl (Src.slice _ Try.underlying23 (by simp [leB_len]) hR2) (by simp [byteV, Value.oneCell']) hm8 (by omega) (by omega) ?_
        intro v' w3 hO3 hG3 hl3
        have hne : ∀ x : Nat, x = w.heap.size → some x ≠ (Value.slice (some ⟨w2.heap.size, 0, none⟩) u.size cc).ownBlock := fun x hx h => by simp [Value.ownBlock] at h; omega
        refine hK.out _ _ ⟨(hG3.cell_far ⟨w.heap.size, 0, none⟩ (by show w.heap.size < wc.heap.size; omega) (hne _ rfl)).trans hHeld.1, (hG3.cell_far ⟨w.heap.size, 1, none⟩ (by show w.heap.size < wc.heap.size; omega) (hne _ rfl)).trans hHeld.2.1, (hG3.cell_far ⟨w.heap.size, 2, none⟩ (by show w.heap.size < wc.heap.size; omega) (hne _ rfl)).trans hHeld.2.2⟩ (fun hHeld => ?_)
        have hBB4 := below_append hBB3 hO (Nat.le_refl _) (by omega) hG3
        clear hK K
        try simp only [Act.put, List.getElem_toArray, List.getElem_cons_succ, List.getElem_cons_zero, List.setIfInBounds_toArray, List.set_cons_zero, List.set_cons_succ]
        refine wpAnyH_take (i := 12) (v := ?_) rfl (by kernel_rfl) (by kernel_rfl) (by kernel_rfl) (fun _ _ _ h => h) (Or.inl ⟨by rfl, ?_⟩) (by assumption) ?_
        rotate_left
        · (intro w hSw; (try dsimp only at hSw); go_simp; try (with_reducible rfl))
        try simp only [Act.put, List.getElem_toArray, List.getElem_cons_succ, List.getElem_cons_zero, List.setIfInBounds_toArray, List.set_cons_zero, List.set_cons_succ]
        refine wpAnyH_take (i := 13) (v := ?_) rfl (by kernel_rfl) (by kernel_rfl) (by kernel_rfl) (fun _ _ _ h => h) (Or.inl ⟨by rfl, ?_⟩) (by assumption) ?_
        rotate_left
        · (intro w hSw; (try dsimp only at hSw); go_simp; try (with_reducible rfl))
        try simp only [Act.put, List.getElem_toArray, List.getElem_cons_succ, List.getElem_cons_zero, List.setIfInBounds_toArray, List.set_cons_zero, List.set_cons_succ]
        refine wpAnyH_done (by kernel_rfl) ?_ _
        go_wp2
        go_ret2
        exact ⟨_, ret_two rfl rfl, hBB4, by rw [← HE.out]; exact hO3⟩
      exact AllReadyH.nil
    exact AllReadyH.nil
  exact AllReadyH.nil
end Go.Proofs.Ytkajgpcnodgpcaa
