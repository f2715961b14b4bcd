/-
  The law CodecOrders, walked.
-/
import Derived.Test.YtbgmbnmdmjbciaaOrdC
import Derived.Test.YtbgmbnmdmjbciaaCodB
import Derived.Test.YtbgmbnmdmjbciaaCodH
import Derived.Deep.RegionHeld3
import Derived.Deep.DrawnRows
namespace Go.Proofs.Ytbgmbnmdmjbciaa
open Go.RowKit Go.IntWalk
set_option linter.unusedSimpArgs false
set_option linter.unusedVariables false
attribute [local go_sem ↓] Go.wp_at_zero Go.wp_at_succ

set_option maxHeartbeats 4000000 in
set_option maxRecDepth 100000 in
theorem codecOrders_any (how : Int) (ua ub : ByteArray) (sa ka sb kb : Int) (w : World) (ha : ua.size ≤ 140737488351232) (hb : ub.size ≤ 140737488351232) :
    Calls Try.prog 6 #[.int .i64 how, .agg #[.string ua, .int .u64 sa, .int .i64 ka], .agg #[.string ub, .int .u64 sb, .int .i64 kb]] w fun e w' => e = .returned (.bool true) ∧ Below w.heap.size w w' := by
  have hO1 := fun w => cOrder_any how sa ka sb kb ua ub w
  have hO2 := fun w => rOrder_any how sa ka sb kb ua ub w
  have hC1 := fun w => cCompare_any how ua ub w
  have hC2 := fun w => rCompare_any how ua ub w
  have hS1 := fun w => cBetween_any how ua ub w ha hb
  have hS2 := fun w => rBetween_any how ua ub w ha hb
  have hT1 := fun w => cAfter_any how ua w ha
  have hT2 := fun w => rAfter_any how ua w ha
  have hC3 := fun w => cCompare_any how ua (btwB how ua ub) w
  have hC4 := fun w => cCompare_any how (btwB how ua ub) ub w
  have hC5 := fun w => cCompare_any how ua (aftB how ua) w
  obtain ⟨hsz1, hlaw⟩ := btw_all how ua ub
  have hsz2 := aft_size how ua
  have hle5 := aft_above how ua
  generalize ordK how ⟨ua, sa, ka⟩ ⟨ub, sb, kb⟩ = o at *
  generalize btwB how ua ub = s at *
  generalize aftB how ua = t at *
  generalize cmpH how ua ub = m1 at *
  generalize cmpH how ua s = m2 at *
  generalize cmpH how s ub = m3 at *
  generalize cmpH how ua t = m4 at *
  have HO1 := Lib.hid hO1
  have HO2 := Lib.hid hO2
  have HC1 := Lib.hid hC1
  have HC2 := Lib.hid hC2
  have HC3 := Lib.hid hC3
  have HC4 := Lib.hid hC4
  have HC5 := Lib.hid hC5
  have HS1 := Lib.hid hS1
  have HS2 := Lib.hid hS2
  have HT1 := Lib.hid hT1
  have HT2 := Lib.hid hT2
  have HL := Lib.hid hlaw
  clear hO1 hO2 hC1 hC2 hC3 hC4 hC5 hS1 hS2 hT1 hT2 hlaw
  have q1 : decide ((ua.size : Int) < (s.size : Int)) = false := by simp; omega
  have q2 : decide ((ua.size : Int) < (t.size : Int)) = false := by simp; omega
  have q4 : decide (m4 ≤ 0) = true := by simpa using hle5
  go_enter Try.func6, Try.ntmps6
  go_wp2_with fail
  obtain ⟨w2, hw2⟩ : ∃ w2, (w.alloc (.cells #[.string ua, .int .u64 sa, .int .i64 ka] 30)).alloc (.cells #[.string ub, .int .u64 sb, .int .i64 kb] 30) = w2 := ⟨_, rfl⟩
  have hb2 : Below w.heap.size w w2 := by rw [← hw2]; exact ((Below.refl _ w).alloc (Nat.le_refl _) _).alloc (by simp) _
  have h5 : Blk w2 w.heap.size 30 #[.string ua, .int .u64 sa, .int .i64 ka] := by rw [← hw2]; exact (Blk.new w _ _).alloc _
  have h6 : Blk w2 (w.heap.size + 1) 30 #[.string ub, .int .u64 sb, .int .i64 kb] := by
    rw [← hw2]; have := Blk.new (w.alloc (.cells #[.string ua, .int .u64 sa, .int .i64 ka] 30)) 30 #[.string ub, .int .u64 sb, .int .i64 kb]
    rwa [World.size_alloc] at this
  rw [hw2]
  clear hw2
  have hS : ∀ w', Below w2.heap.size w2 w' →
      (w'.cell? ⟨w.heap.size, 0, none⟩ = some (.string ua) ∧ w'.cell? ⟨w.heap.size, 1, none⟩ = some (.int .u64 sa) ∧ w'.cell? ⟨w.heap.size, 2, none⟩ = some (.int .i64 ka)) ∧
      (w'.cell? ⟨w.heap.size + 1, 0, none⟩ = some (.string ub) ∧ w'.cell? ⟨w.heap.size + 1, 1, none⟩ = some (.int .u64 sb) ∧ w'.cell? ⟨w.heap.size + 1, 2, none⟩ = some (.int .i64 kb)) := by
    intro w' h
    have g1 := h5.below h h5.lt
    have g2 := h6.below h h6.lt
    exact ⟨⟨g1.cell 0, g1.cell 1, g1.cell 2⟩, ⟨g2.cell 0, g2.cell 1, g2.cell 2⟩⟩
  have HS := Lib.hid hS
  have HB := Lib.hid hb2
  clear hS hb2 h5 h6
  refine wp_region_held_drew (S := fun w' => Below w2.heap.size w2 w') (by kernel_rfl) (Below.refl _ w2).drew (fun hHeld => ?_)
  refine wpAnyH_take (i := 0) (v := ?_) rfl (by kernel_rfl) (by kernel_rfl) (by kernel_rfl) (fun _ _ _ h => h) (Or.inl ⟨by rfl, ?_⟩) (by assumption) ?_
  rotate_left
  · (intro w hSw; obtain ⟨⟨k0, k1, k2⟩, ⟨l0, l1, l2⟩⟩ := HS.out w hSw; go_simp; try (with_reducible rfl))
  try simp only [Act.put, List.getElem_toArray, List.getElem_cons_succ, List.getElem_cons_zero, List.setIfInBounds_toArray, List.set_cons_zero, List.set_cons_succ]
  refine wpAnyH_take (i := 1) (v := ?_) rfl (by kernel_rfl) (by kernel_rfl) (by kernel_rfl) (fun _ _ _ h => h) (Or.inl ⟨by rfl, ?_⟩) (by assumption) ?_
  rotate_left
  · (intro w hSw; obtain ⟨⟨k0, k1, k2⟩, ⟨l0, l1, l2⟩⟩ := HS.out w hSw; go_simp; try (with_reducible rfl))
  try simp only [Act.put, List.getElem_toArray, List.getElem_cons_succ, List.getElem_cons_zero, List.setIfInBounds_toArray, List.set_cons_zero, List.set_cons_succ]
  refine wpAnyH_take (i := 2) (v := ?_) rfl (by kernel_rfl) (by kernel_rfl) (by kernel_rfl) (fun _ _ _ h => h) (Or.inl ⟨by rfl, ?_⟩) (by assumption) ?_
  rotate_left
  · (intro w hSw; obtain ⟨⟨k0, k1, k2⟩, ⟨l0, l1, l2⟩⟩ := HS.out w hSw; go_simp; try (with_reducible rfl))
  try simp only [Act.put, List.getElem_toArray, List.getElem_cons_succ, List.getElem_cons_zero, List.setIfInBounds_toArray, List.set_cons_zero, List.set_cons_succ]
  refine wpAnyH_take (i := 4) (v := ?_) rfl (by kernel_rfl) (by kernel_rfl) (by kernel_rfl) (fun _ _ _ h => h) (Or.inl ⟨by rfl, ?_⟩) (by assumption) ?_
  rotate_left
  · (intro w hSw; obtain ⟨⟨k0, k1, k2⟩, ⟨l0, l1, l2⟩⟩ := HS.out w hSw; go_simp; try (with_reducible rfl))
  try simp only [Act.put, List.getElem_toArray, List.getElem_cons_succ, List.getElem_cons_zero, List.setIfInBounds_toArray, List.set_cons_zero, List.set_cons_succ]
  refine wpAnyH_take (i := 5) (v := ?_) rfl (by kernel_rfl) (by kernel_rfl) (by kernel_rfl) (fun _ _ _ h => h) (Or.inl ⟨by rfl, ?_⟩) (by assumption) ?_
  rotate_left
  · (intro w hSw; obtain ⟨⟨k0, k1, k2⟩, ⟨l0, l1, l2⟩⟩ := HS.out w hSw; go_simp; try (with_reducible rfl))
  try simp only [Act.put, List.getElem_toArray, List.getElem_cons_succ, List.getElem_cons_zero, List.setIfInBounds_toArray, List.set_cons_zero, List.set_cons_succ]
  refine wpAnyH_take (i := 6) (v := ?_) rfl (by kernel_rfl) (by kernel_rfl) (by kernel_rfl) (fun _ _ _ h => h) (Or.inl ⟨by rfl, ?_⟩) (by assumption) ?_
  rotate_left
  · (intro w hSw; obtain ⟨⟨k0, k1, k2⟩, ⟨l0, l1, l2⟩⟩ := HS.out w hSw; go_simp; try (with_reducible rfl))
  try simp only [Act.put, List.getElem_toArray, List.getElem_cons_succ, List.getElem_cons_zero, List.setIfInBounds_toArray, List.set_cons_zero, List.set_cons_succ]
  refine wpAnyH_ready (rs := [3]) (by kernel_rfl) (by simp) ?_
  refine AllReadyH.cons rfl (fun K hK => ?_) ?_
  · go_simp
    refine (HO1.out _).mono ?_
    rintro e w3 ⟨rfl, hb1⟩
    have hB1 := hHeld.trans (hb1.mono hHeld.size)
    refine hK.out _ _ hB1 (fun hHeld => ?_)
    clear hb1 hB1
    clear hK K
    try simp only [Act.put, List.getElem_toArray, List.getElem_cons_succ, List.getElem_cons_zero, List.setIfInBounds_toArray, List.set_cons_zero, List.set_cons_succ]
    refine wpAnyH_ready (rs := [7]) (by kernel_rfl) (by simp) ?_
    refine AllReadyH.cons rfl (fun K hK => ?_) ?_
    · go_simp
      refine (HO2.out _).mono ?_
      rintro e w4 ⟨rfl, hb1⟩
      have hB1 := hHeld.trans (hb1.mono hHeld.size)
      refine hK.out _ _ hB1 (fun hHeld => ?_)
      clear hb1 hB1
      clear hK K
      try simp only [Act.put, List.getElem_toArray, List.getElem_cons_succ, List.getElem_cons_zero, List.setIfInBounds_toArray, List.set_cons_zero, List.set_cons_succ]
      refine wpAnyH_take (i := 8) (v := ?_) rfl (by kernel_rfl) (by kernel_rfl) (by kernel_rfl) (fun _ _ _ h => h) (Or.inl ⟨by rfl, ?_⟩) (by assumption) ?_
      rotate_left
      · (intro w hSw; obtain ⟨⟨k0, k1, k2⟩, ⟨l0, l1, l2⟩⟩ := HS.out w hSw; go_simp; try (with_reducible rfl))
      try simp only [Act.put, List.getElem_toArray, List.getElem_cons_succ, List.getElem_cons_zero, List.setIfInBounds_toArray, List.set_cons_zero, List.set_cons_succ]
      refine wpAnyH_take (i := 9) (v := ?_) rfl (by kernel_rfl) (by kernel_rfl) (by kernel_rfl) (fun _ _ _ h => h) (Or.inl ⟨by rfl, ?_⟩) (by assumption) ?_
      rotate_left
      · (intro w hSw; obtain ⟨⟨k0, k1, k2⟩, ⟨l0, l1, l2⟩⟩ := HS.out w hSw; go_simp; try (with_reducible rfl))
      try simp only [Act.put, List.getElem_toArray, List.getElem_cons_succ, List.getElem_cons_zero, List.setIfInBounds_toArray, List.set_cons_zero, List.set_cons_succ]
      refine wpAnyH_take (i := 10) (v := ?_) rfl (by kernel_rfl) (by kernel_rfl) (by kernel_rfl) (fun _ _ _ h => h) (Or.inl ⟨by rfl, ?_⟩) (by assumption) ?_
      rotate_left
      · (intro w hSw; obtain ⟨⟨k0, k1, k2⟩, ⟨l0, l1, l2⟩⟩ := HS.out w hSw; go_simp; try (with_reducible rfl))
      try simp only [Act.put, List.getElem_toArray, List.getElem_cons_succ, List.getElem_cons_zero, List.setIfInBounds_toArray, List.set_cons_zero, List.set_cons_succ]
      refine wpAnyH_take (i := 11) (v := ?_) rfl (by kernel_rfl) (by kernel_rfl) (by kernel_rfl) (fun _ _ _ h => h) (Or.inl ⟨by rfl, ?_⟩) (by assumption) ?_
      rotate_left
      · (intro w hSw; obtain ⟨⟨k0, k1, k2⟩, ⟨l0, l1, l2⟩⟩ := HS.out w hSw; go_simp; try (with_reducible rfl))
      try simp only [Act.put, List.getElem_toArray, List.getElem_cons_succ, List.getElem_cons_zero, List.setIfInBounds_toArray, List.set_cons_zero, List.set_cons_succ]
      refine wpAnyH_take (i := 12) (v := ?_) rfl (by kernel_rfl) (by kernel_rfl) (by kernel_rfl) (fun _ _ _ h => h) (Or.inl ⟨by rfl, ?_⟩) (by assumption) ?_
      rotate_left
      · (intro w hSw; obtain ⟨⟨k0, k1, k2⟩, ⟨l0, l1, l2⟩⟩ := HS.out w hSw; go_simp; try (with_reducible rfl))
      try simp only [Act.put, List.getElem_toArray, List.getElem_cons_succ, List.getElem_cons_zero, List.setIfInBounds_toArray, List.set_cons_zero, List.set_cons_succ]
      refine wpAnyH_take (i := 13) (v := ?_) rfl (by kernel_rfl) (by kernel_rfl) (by kernel_rfl) (fun _ _ _ h => h) (Or.inl ⟨by rfl, ?_⟩) (by assumption) ?_
      rotate_left
      · (intro w hSw; obtain ⟨⟨k0, k1, k2⟩, ⟨l0, l1, l2⟩⟩ := HS.out w hSw; go_simp; try (with_reducible rfl))
      try simp only [Act.put, List.getElem_toArray, List.getElem_cons_succ, List.getElem_cons_zero, List.setIfInBounds_toArray, List.set_cons_zero, List.set_cons_succ]
      refine wpAnyH_take (i := 14) (v := ?_) rfl (by kernel_rfl) (by kernel_rfl) (by kernel_rfl) (fun _ _ _ h => h) (Or.inl ⟨by rfl, ?_⟩) (by assumption) ?_
      rotate_left
      · (intro w hSw; obtain ⟨⟨k0, k1, k2⟩, ⟨l0, l1, l2⟩⟩ := HS.out w hSw; go_simp; try (with_reducible rfl))
      try simp only [Act.put, List.getElem_toArray, List.getElem_cons_succ, List.getElem_cons_zero, List.setIfInBounds_toArray, List.set_cons_zero, List.set_cons_succ]
      refine wpAnyH_take (i := 16) (v := ?_) rfl (by kernel_rfl) (by kernel_rfl) (by kernel_rfl) (fun _ _ _ h => h) (Or.inl ⟨by rfl, ?_⟩) (by assumption) ?_
      rotate_left
      · (intro w hSw; obtain ⟨⟨k0, k1, k2⟩, ⟨l0, l1, l2⟩⟩ := HS.out w hSw; go_simp; try (with_reducible rfl))
      try simp only [Act.put, List.getElem_toArray, List.getElem_cons_succ, List.getElem_cons_zero, List.setIfInBounds_toArray, List.set_cons_zero, List.set_cons_succ]
      refine wpAnyH_take (i := 17) (v := ?_) rfl (by kernel_rfl) (by kernel_rfl) (by kernel_rfl) (fun _ _ _ h => h) (Or.inl ⟨by rfl, ?_⟩) (by assumption) ?_
      rotate_left
      · (intro w hSw; obtain ⟨⟨k0, k1, k2⟩, ⟨l0, l1, l2⟩⟩ := HS.out w hSw; go_simp; try (with_reducible rfl))
      try simp only [Act.put, List.getElem_toArray, List.getElem_cons_succ, List.getElem_cons_zero, List.setIfInBounds_toArray, List.set_cons_zero, List.set_cons_succ]
      refine wpAnyH_take (i := 18) (v := ?_) rfl (by kernel_rfl) (by kernel_rfl) (by kernel_rfl) (fun _ _ _ h => h) (Or.inl ⟨by rfl, ?_⟩) (by assumption) ?_
      rotate_left
      · (intro w hSw; obtain ⟨⟨k0, k1, k2⟩, ⟨l0, l1, l2⟩⟩ := HS.out w hSw; go_simp; try (with_reducible rfl))
      try simp only [Act.put, List.getElem_toArray, List.getElem_cons_succ, List.getElem_cons_zero, List.setIfInBounds_toArray, List.set_cons_zero, List.set_cons_succ]
      refine wpAnyH_take (i := 19) (v := ?_) rfl (by kernel_rfl) (by kernel_rfl) (by kernel_rfl) (fun _ _ _ h => h) (Or.inl ⟨by rfl, ?_⟩) (by assumption) ?_
      rotate_left
      · (intro w hSw; obtain ⟨⟨k0, k1, k2⟩, ⟨l0, l1, l2⟩⟩ := HS.out w hSw; go_simp; try (with_reducible rfl))
      try simp only [Act.put, List.getElem_toArray, List.getElem_cons_succ, List.getElem_cons_zero, List.setIfInBounds_toArray, List.set_cons_zero, List.set_cons_succ]
      refine wpAnyH_take (i := 20) (v := ?_) rfl (by kernel_rfl) (by kernel_rfl) (by kernel_rfl) (fun _ _ _ h => h) (Or.inl ⟨by rfl, ?_⟩) (by assumption) ?_
      rotate_left
      · (intro w hSw; obtain ⟨⟨k0, k1, k2⟩, ⟨l0, l1, l2⟩⟩ := HS.out w hSw; go_simp; try (with_reducible rfl))
      try simp only [Act.put, List.getElem_toArray, List.getElem_cons_succ, List.getElem_cons_zero, List.setIfInBounds_toArray, List.set_cons_zero, List.set_cons_succ]
      refine wpAnyH_ready (rs := [15]) (by kernel_rfl) (by simp) ?_
      refine AllReadyH.cons rfl (fun K hK => ?_) ?_
      · go_simp
        refine (HC1.out _).mono ?_
        rintro e w5 ⟨rfl, rfl⟩
        refine hK.out _ _ hHeld (fun hHeld => ?_)
        clear hK K
        try simp only [Act.put, List.getElem_toArray, List.getElem_cons_succ, List.getElem_cons_zero, List.setIfInBounds_toArray, List.set_cons_zero, List.set_cons_succ]
        refine wpAnyH_ready (rs := [21]) (by kernel_rfl) (by simp) ?_
        refine AllReadyH.cons rfl (fun K hK => ?_) ?_
        · go_simp
          refine (HC2.out _).mono ?_
          rintro e w6 ⟨rfl, rfl⟩
          refine hK.out _ _ hHeld (fun hHeld => ?_)
          clear hK K
          try simp only [Act.put, List.getElem_toArray, List.getElem_cons_succ, List.getElem_cons_zero, List.setIfInBounds_toArray, List.set_cons_zero, List.set_cons_succ]
          refine wpAnyH_take (i := 22) (v := ?_) rfl (by kernel_rfl) (by kernel_rfl) (by kernel_rfl) (fun _ _ _ h => h) (Or.inl ⟨by rfl, ?_⟩) (by assumption) ?_
          rotate_left
          · (intro w hSw; (try dsimp only at hSw); go_simp; try (with_reducible rfl))
          try simp only [Act.put, List.getElem_toArray, List.getElem_cons_succ, List.getElem_cons_zero, List.setIfInBounds_toArray, List.set_cons_zero, List.set_cons_succ]
          refine wpAnyH_take (i := 23) (v := ?_) rfl (by kernel_rfl) (by kernel_rfl) (by kernel_rfl) (fun _ _ _ h => h) (Or.inl ⟨by rfl, ?_⟩) (by assumption) ?_
          rotate_left
          · (intro w hSw; (try dsimp only at hSw); go_simp; try (with_reducible rfl))
          try simp only [Act.put, List.getElem_toArray, List.getElem_cons_succ, List.getElem_cons_zero, List.setIfInBounds_toArray, List.set_cons_zero, List.set_cons_succ]
          refine wpAnyH_done (by kernel_rfl) ?_ _
          go_wp2_with fail
          refine wp_region_held_drew (S := fun w' => Below w2.heap.size w2 w') (by kernel_rfl) hHeld.drew (fun hHeld => ?_)
          refine wpAnyH_take (i := 0) (v := ?_) rfl (by kernel_rfl) (by kernel_rfl) (by kernel_rfl) (fun _ _ _ h => h) (Or.inl ⟨by rfl, ?_⟩) (by assumption) ?_
          rotate_left
          · (intro w hSw; obtain ⟨⟨k0, k1, k2⟩, ⟨l0, l1, l2⟩⟩ := HS.out w hSw; go_simp; try (with_reducible rfl))
          try simp only [Act.put, List.getElem_toArray, List.getElem_cons_succ, List.getElem_cons_zero, List.setIfInBounds_toArray, List.set_cons_zero, List.set_cons_succ]
          refine wpAnyH_take (i := 1) (v := ?_) rfl (by kernel_rfl) (by kernel_rfl) (by kernel_rfl) (fun _ _ _ h => h) (Or.inl ⟨by rfl, ?_⟩) (by assumption) ?_
          rotate_left
          · (intro w hSw; obtain ⟨⟨k0, k1, k2⟩, ⟨l0, l1, l2⟩⟩ := HS.out w hSw; go_simp; try (with_reducible rfl))
          try simp only [Act.put, List.getElem_toArray, List.getElem_cons_succ, List.getElem_cons_zero, List.setIfInBounds_toArray, List.set_cons_zero, List.set_cons_succ]
          refine wpAnyH_take (i := 2) (v := ?_) rfl (by kernel_rfl) (by kernel_rfl) (by kernel_rfl) (fun _ _ _ h => h) (Or.inl ⟨by rfl, ?_⟩) (by assumption) ?_
          rotate_left
          · (intro w hSw; obtain ⟨⟨k0, k1, k2⟩, ⟨l0, l1, l2⟩⟩ := HS.out w hSw; go_simp; try (with_reducible rfl))
          try simp only [Act.put, List.getElem_toArray, List.getElem_cons_succ, List.getElem_cons_zero, List.setIfInBounds_toArray, List.set_cons_zero, List.set_cons_succ]
          refine wpAnyH_take (i := 3) (v := ?_) rfl (by kernel_rfl) (by kernel_rfl) (by kernel_rfl) (fun _ _ _ h => h) (Or.inl ⟨by rfl, ?_⟩) (by assumption) ?_
          rotate_left
          · (intro w hSw; obtain ⟨⟨k0, k1, k2⟩, ⟨l0, l1, l2⟩⟩ := HS.out w hSw; go_simp; try (with_reducible rfl))
          try simp only [Act.put, List.getElem_toArray, List.getElem_cons_succ, List.getElem_cons_zero, List.setIfInBounds_toArray, List.set_cons_zero, List.set_cons_succ]
          refine wpAnyH_take (i := 4) (v := ?_) rfl (by kernel_rfl) (by kernel_rfl) (by kernel_rfl) (fun _ _ _ h => h) (Or.inl ⟨by rfl, ?_⟩) (by assumption) ?_
          rotate_left
          · (intro w hSw; obtain ⟨⟨k0, k1, k2⟩, ⟨l0, l1, l2⟩⟩ := HS.out w hSw; go_simp; try (with_reducible rfl))
          try simp only [Act.put, List.getElem_toArray, List.getElem_cons_succ, List.getElem_cons_zero, List.setIfInBounds_toArray, List.set_cons_zero, List.set_cons_succ]
          refine wpAnyH_take (i := 6) (v := ?_) rfl (by kernel_rfl) (by kernel_rfl) (by kernel_rfl) (fun _ _ _ h => h) (Or.inl ⟨by rfl, ?_⟩) (by assumption) ?_
          rotate_left
          · (intro w hSw; obtain ⟨⟨k0, k1, k2⟩, ⟨l0, l1, l2⟩⟩ := HS.out w hSw; go_simp; try (with_reducible rfl))
          try simp only [Act.put, List.getElem_toArray, List.getElem_cons_succ, List.getElem_cons_zero, List.setIfInBounds_toArray, List.set_cons_zero, List.set_cons_succ]
          refine wpAnyH_take (i := 7) (v := ?_) rfl (by kernel_rfl) (by kernel_rfl) (by kernel_rfl) (fun _ _ _ h => h) (Or.inl ⟨by rfl, ?_⟩) (by assumption) ?_
          rotate_left
          · (intro w hSw; obtain ⟨⟨k0, k1, k2⟩, ⟨l0, l1, l2⟩⟩ := HS.out w hSw; go_simp; try (with_reducible rfl))
          try simp only [Act.put, List.getElem_toArray, List.getElem_cons_succ, List.getElem_cons_zero, List.setIfInBounds_toArray, List.set_cons_zero, List.set_cons_succ]
          refine wpAnyH_take (i := 8) (v := ?_) rfl (by kernel_rfl) (by kernel_rfl) (by kernel_rfl) (fun _ _ _ h => h) (Or.inl ⟨by rfl, ?_⟩) (by assumption) ?_
          rotate_left
          · (intro w hSw; obtain ⟨⟨k0, k1, k2⟩, ⟨l0, l1, l2⟩⟩ := HS.out w hSw; go_simp; try (with_reducible rfl))
          try simp only [Act.put, List.getElem_toArray, List.getElem_cons_succ, List.getElem_cons_zero, List.setIfInBounds_toArray, List.set_cons_zero, List.set_cons_succ]
          refine wpAnyH_ready (rs := [5]) (by kernel_rfl) (by simp) ?_
          refine AllReadyH.cons rfl (fun K hK => ?_) ?_
          · go_simp
            refine (HS1.out _).mono ?_
            rintro e w7 ⟨rfl, hb1⟩
            have hB1 := hHeld.trans (hb1.mono hHeld.size)
            refine hK.out _ _ hB1 (fun hHeld => ?_)
            clear hb1 hB1
            clear hK K
            try simp only [Act.put, List.getElem_toArray, List.getElem_cons_succ, List.getElem_cons_zero, List.setIfInBounds_toArray, List.set_cons_zero, List.set_cons_succ]
            refine wpAnyH_ready (rs := [9]) (by kernel_rfl) (by simp) ?_
            refine AllReadyH.cons rfl (fun K hK => ?_) ?_
            · go_simp
              refine (HT1.out _).mono ?_
              rintro e w8 ⟨rfl, hb1⟩
              have hB1 := hHeld.trans (hb1.mono hHeld.size)
              refine hK.out _ _ hB1 (fun hHeld => ?_)
              clear hb1 hB1
              clear hK K
              try simp only [Act.put, List.getElem_toArray, List.getElem_cons_succ, List.getElem_cons_zero, List.setIfInBounds_toArray, List.set_cons_zero, List.set_cons_succ]
              refine wpAnyH_take (i := 10) (v := ?_) rfl (by kernel_rfl) (by kernel_rfl) (by kernel_rfl) (fun _ _ _ h => h) (Or.inl ⟨by rfl, ?_⟩) (by assumption) ?_
              rotate_left
              · (intro w hSw; (try dsimp only at hSw); go_simp; try (with_reducible rfl))
              try simp only [Act.put, List.getElem_toArray, List.getElem_cons_succ, List.getElem_cons_zero, List.setIfInBounds_toArray, List.set_cons_zero, List.set_cons_succ]
              refine wpAnyH_take (i := 11) (v := ?_) rfl (by kernel_rfl) (by kernel_rfl) (by kernel_rfl) (fun _ _ _ h => h) (Or.inl ⟨by rfl, ?_⟩) (by assumption) ?_
              rotate_left
              · (intro w hSw; (try dsimp only at hSw); go_simp; try (with_reducible rfl))
              try simp only [Act.put, List.getElem_toArray, List.getElem_cons_succ, List.getElem_cons_zero, List.setIfInBounds_toArray, List.set_cons_zero, List.set_cons_succ]
              refine wpAnyH_done (by kernel_rfl) ?_ _
              have HD := Lib.hid hHeld
              obtain ⟨⟨k0, k1, k2⟩, ⟨l0, l1, l2⟩⟩ := HS.out w8 hHeld
              clear hHeld
              go_wp2_with fail
              refine (HS2.out _).mono ?_
              rintro e w9 ⟨rfl, hb1⟩
              have hB1 := HD.out.trans (hb1.mono HD.out.size)
              obtain ⟨⟨k0, k1, k2⟩, ⟨l0, l1, l2⟩⟩ := HS.out w9 hB1
              have HD9 := Lib.hid hB1
              clear hB1 hb1
              go_wp2_with fail
              refine (HT2.out _).mono ?_
              rintro e w10 ⟨rfl, hb1⟩
              have hB1 := HD9.out.trans (hb1.mono HD9.out.size)
              obtain ⟨⟨k0, k1, k2⟩, ⟨l0, l1, l2⟩⟩ := HS.out w10 hB1
              have HD10 := Lib.hid hB1
              clear hB1 hb1
              go_wp2_with fail
              refine (HC1.out _).mono ?_
              rintro e w11 ⟨rfl, rfl⟩
              by_cases hm : m1 < 0
              · obtain ⟨hm2, hm3⟩ := HL.out hm
                have r1 : decide (m1 < 0) = true := by simpa using hm
                have r2 : decide (0 < m2) = false := by simp; omega
                have r3 : decide (0 ≤ m3) = false := by simp; omega
                clear HL hm hm2 hm3 hle5
                go_wp2_with fail
                refine (HC3.out _).mono ?_
                rintro e w12 ⟨rfl, rfl⟩
                go_wp2_with fail
                refine (HC4.out _).mono ?_
                rintro e w13 ⟨rfl, rfl⟩
                go_wp2_with fail
                refine (HC5.out _).mono ?_
                rintro e w14 ⟨rfl, rfl⟩
                go_wp2_with fail
                refine (lives01_any _).mono ?_
                rintro e w15 ⟨rfl, hb15⟩
                go_wp2_with fail
                go_ret
                exact ⟨ret_bool rfl, (HB.out.trans (HD10.out.mono HB.out.size)).trans (hb15.mono (Nat.le_trans HB.out.size HD10.out.size))⟩
              · have r1 : decide (m1 < 0) = false := by simp; omega
                clear HL hm hle5
                go_wp2_with fail
                refine (HC5.out _).mono ?_
                rintro e w14 ⟨rfl, rfl⟩
                go_wp2_with fail
                refine (lives01_any _).mono ?_
                rintro e w15 ⟨rfl, hb15⟩
                go_wp2_with fail
                go_ret
                exact ⟨ret_bool rfl, (HB.out.trans (HD10.out.mono HB.out.size)).trans (hb15.mono (Nat.le_trans HB.out.size HD10.out.size))⟩
            exact AllReadyH.nil
          exact AllReadyH.nil
        exact AllReadyH.nil
      exact AllReadyH.nil
    exact AllReadyH.nil
  exact AllReadyH.nil
end Go.Proofs.Ytbgmbnmdmjbciaa
