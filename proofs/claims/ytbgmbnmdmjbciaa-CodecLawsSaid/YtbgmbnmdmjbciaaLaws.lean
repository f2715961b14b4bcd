/-
  The law CodecLaws, walked.
-/
import Derived.Test.YtbgmbnmdmjbciaaCodB
import Derived.Test.YtbgmbnmdmjbciaaCodH
import Derived.Deep.RegionHeld3
import Derived.Deep.DrawnRows
import Derived.Deep.CutRange
namespace Go.Proofs.Ytbgmbnmdmjbciaa
open Go.RowKit Go.IntWalk
set_option linter.unusedSimpArgs false
attribute [local go_sem ↓] Go.wp_at_zero Go.wp_at_succ

theorem Blk.at_ {w : World} {n : Nat} {t : TypeId} {cs : Array Value} (h : n = w.heap.size) : Blk (w.alloc (.cells cs t)) n t cs := by subst h; exact Blk.new w t cs
theorem toList_inj {a b : ByteArray} (h : a.toList = b.toList) : a = b := by
  rw [ByteArray.toList_eq, ByteArray.toList_eq] at h
  exact data_inj h
set_option maxHeartbeats 4000000 in
set_option maxRecDepth 100000 in
theorem codecLaws_any (how : Int) (ua ub uc : ByteArray) (sa ka sb kb sc kc : Int) (w : World) :
    Calls Try.prog 5 #[.int .i64 how, .agg #[.string ua, .int .u64 sa, .int .i64 ka, .string ub, .int .u64 sb, .int .i64 kb, .string uc, .int .u64 sc, .int .i64 kc]] w fun e w' => e = .returned (.bool true) ∧ Below w.heap.size w w' := by
  go_enter Try.func5, Try.ntmps5
  go_upto_region 1 with fail
  go_cut [5, 6, 7] from 11 to 16 (fun s5 s6 s7 wx => ∃ b5 b6 b7, s5 = .pointer (some ⟨b5, 0, none⟩) ∧ s6 = .pointer (some ⟨b6, 0, none⟩) ∧ s7 = .pointer (some ⟨b7, 0, none⟩) ∧
    Blk wx b5 30 #[.string ua, .int .u64 sa, .int .i64 ka] ∧ Blk wx b6 30 #[.string ub, .int .u64 sb, .int .i64 kb] ∧ Blk wx b7 30 #[.string uc, .int .u64 sc, .int .i64 kc] ∧ Below w.heap.size w wx)
  case first =>
    go_region
    all_goals go_wp2_with fail
    all_goals go_meet
    all_goals refine ⟨_, _, _, rfl, rfl, rfl, ?_, ?_, ?_, ?_⟩
    all_goals first
      | exact Blk.at_ (by simp)
      | exact (Blk.at_ (by simp)).alloc _
      | exact ((Blk.at_ (by simp)).alloc _).alloc _
      | exact (((((Below.refl _ w).alloc (Nat.le_refl _) _).alloc (by simp) _).alloc (by simp; omega) _).alloc (by simp; omega) _).drew
  case rest =>
    obtain ⟨b5, b6, b7, rfl, rfl, rfl, h5, h6, h7, hb⟩ := hcut
    have hO := fun (a b : K) (w : World) => cOrder_any how a.s a.k b.s b.k a.u b.u w
    have hz := hb.size
    have h5z := h5.lt
    have h6z := h6.lt
    have h7z := h7.lt
    have hS : ∀ w', Below wc.heap.size wc w' →
        (w'.cell? ⟨b5, 0, none⟩ = some (.string ua) ∧ w'.cell? ⟨b5, 1, none⟩ = some (.int .u64 sa) ∧ w'.cell? ⟨b5, 2, none⟩ = some (.int .i64 ka)) ∧
        (w'.cell? ⟨b6, 0, none⟩ = some (.string ub) ∧ w'.cell? ⟨b6, 1, none⟩ = some (.int .u64 sb) ∧ w'.cell? ⟨b6, 2, none⟩ = some (.int .i64 kb)) ∧
        (w'.cell? ⟨b7, 0, none⟩ = some (.string uc) ∧ w'.cell? ⟨b7, 1, none⟩ = some (.int .u64 sc) ∧ w'.cell? ⟨b7, 2, none⟩ = some (.int .i64 kc)) := by
      intro w' h
      have g1 := h5.below h h5z
      have g2 := h6.below h h6z
      have g3 := h7.below h h7z
      exact ⟨⟨g1.cell 0, g1.cell 1, g1.cell 2⟩, ⟨g2.cell 0, g2.cell 1, g2.cell 2⟩, ⟨g3.cell 0, g3.cell 1, g3.cell 2⟩⟩
    have HS := Lib.hid hS
    have HB := Lib.hid hb
    have HO := Lib.hid hO
    clear hS h5 h6 h7 hb hO
    go_upto_region 2 with fail
    refine wp_region_held_drew (S := fun w' => Below wc.heap.size wc w') (by kernel_rfl) (Below.refl _ wc).drew (fun hHeld => ?_)
    refine wpAnyH_take (i := 0) (v := ?_) rfl (by kernel_rfl) (by kernel_rfl) (by kernel_rfl) (fun _ _ _ h => h) (Or.inl ⟨by rfl, ?_⟩) (by assumption) ?_
    rotate_left
    · (intro w hSw; obtain ⟨⟨k0, k1, k2⟩, ⟨l0, l1, l2⟩, ⟨m0, m1, m2⟩⟩ := HS.out w hSw; go_simp; try (with_reducible rfl))
    try simp only [Act.put, List.getElem_toArray, List.getElem_cons_succ, List.getElem_cons_zero, List.setIfInBounds_toArray, List.set_cons_zero, List.set_cons_succ]
    refine wpAnyH_take (i := 1) (v := ?_) rfl (by kernel_rfl) (by kernel_rfl) (by kernel_rfl) (fun _ _ _ h => h) (Or.inl ⟨by rfl, ?_⟩) (by assumption) ?_
    rotate_left
    · (intro w hSw; obtain ⟨⟨k0, k1, k2⟩, ⟨l0, l1, l2⟩, ⟨m0, m1, m2⟩⟩ := HS.out w hSw; go_simp; try (with_reducible rfl))
    try simp only [Act.put, List.getElem_toArray, List.getElem_cons_succ, List.getElem_cons_zero, List.setIfInBounds_toArray, List.set_cons_zero, List.set_cons_succ]
    refine wpAnyH_take (i := 2) (v := ?_) rfl (by kernel_rfl) (by kernel_rfl) (by kernel_rfl) (fun _ _ _ h => h) (Or.inl ⟨by rfl, ?_⟩) (by assumption) ?_
    rotate_left
    · (intro w hSw; obtain ⟨⟨k0, k1, k2⟩, ⟨l0, l1, l2⟩, ⟨m0, m1, m2⟩⟩ := HS.out w hSw; go_simp; try (with_reducible rfl))
    try simp only [Act.put, List.getElem_toArray, List.getElem_cons_succ, List.getElem_cons_zero, List.setIfInBounds_toArray, List.set_cons_zero, List.set_cons_succ]
    refine wpAnyH_take (i := 4) (v := ?_) rfl (by kernel_rfl) (by kernel_rfl) (by kernel_rfl) (fun _ _ _ h => h) (Or.inl ⟨by rfl, ?_⟩) (by assumption) ?_
    rotate_left
    · (intro w hSw; obtain ⟨⟨k0, k1, k2⟩, ⟨l0, l1, l2⟩, ⟨m0, m1, m2⟩⟩ := HS.out w hSw; go_simp; try (with_reducible rfl))
    try simp only [Act.put, List.getElem_toArray, List.getElem_cons_succ, List.getElem_cons_zero, List.setIfInBounds_toArray, List.set_cons_zero, List.set_cons_succ]
    refine wpAnyH_take (i := 5) (v := ?_) rfl (by kernel_rfl) (by kernel_rfl) (by kernel_rfl) (fun _ _ _ h => h) (Or.inl ⟨by rfl, ?_⟩) (by assumption) ?_
    rotate_left
    · (intro w hSw; obtain ⟨⟨k0, k1, k2⟩, ⟨l0, l1, l2⟩, ⟨m0, m1, m2⟩⟩ := HS.out w hSw; go_simp; try (with_reducible rfl))
    try simp only [Act.put, List.getElem_toArray, List.getElem_cons_succ, List.getElem_cons_zero, List.setIfInBounds_toArray, List.set_cons_zero, List.set_cons_succ]
    refine wpAnyH_take (i := 6) (v := ?_) rfl (by kernel_rfl) (by kernel_rfl) (by kernel_rfl) (fun _ _ _ h => h) (Or.inl ⟨by rfl, ?_⟩) (by assumption) ?_
    rotate_left
    · (intro w hSw; obtain ⟨⟨k0, k1, k2⟩, ⟨l0, l1, l2⟩, ⟨m0, m1, m2⟩⟩ := HS.out w hSw; go_simp; try (with_reducible rfl))
    try simp only [Act.put, List.getElem_toArray, List.getElem_cons_succ, List.getElem_cons_zero, List.setIfInBounds_toArray, List.set_cons_zero, List.set_cons_succ]
    refine wpAnyH_take (i := 8) (v := ?_) rfl (by kernel_rfl) (by kernel_rfl) (by kernel_rfl) (fun _ _ _ h => h) (Or.inl ⟨by rfl, ?_⟩) (by assumption) ?_
    rotate_left
    · (intro w hSw; obtain ⟨⟨k0, k1, k2⟩, ⟨l0, l1, l2⟩, ⟨m0, m1, m2⟩⟩ := HS.out w hSw; go_simp; try (with_reducible rfl))
    try simp only [Act.put, List.getElem_toArray, List.getElem_cons_succ, List.getElem_cons_zero, List.setIfInBounds_toArray, List.set_cons_zero, List.set_cons_succ]
    refine wpAnyH_take (i := 9) (v := ?_) rfl (by kernel_rfl) (by kernel_rfl) (by kernel_rfl) (fun _ _ _ h => h) (Or.inl ⟨by rfl, ?_⟩) (by assumption) ?_
    rotate_left
    · (intro w hSw; obtain ⟨⟨k0, k1, k2⟩, ⟨l0, l1, l2⟩, ⟨m0, m1, m2⟩⟩ := HS.out w hSw; go_simp; try (with_reducible rfl))
    try simp only [Act.put, List.getElem_toArray, List.getElem_cons_succ, List.getElem_cons_zero, List.setIfInBounds_toArray, List.set_cons_zero, List.set_cons_succ]
    refine wpAnyH_take (i := 10) (v := ?_) rfl (by kernel_rfl) (by kernel_rfl) (by kernel_rfl) (fun _ _ _ h => h) (Or.inl ⟨by rfl, ?_⟩) (by assumption) ?_
    rotate_left
    · (intro w hSw; obtain ⟨⟨k0, k1, k2⟩, ⟨l0, l1, l2⟩, ⟨m0, m1, m2⟩⟩ := HS.out w hSw; go_simp; try (with_reducible rfl))
    try simp only [Act.put, List.getElem_toArray, List.getElem_cons_succ, List.getElem_cons_zero, List.setIfInBounds_toArray, List.set_cons_zero, List.set_cons_succ]
    refine wpAnyH_ready (rs := [3]) (by kernel_rfl) (by simp) ?_
    refine AllReadyH.cons rfl (fun K hK => ?_) ?_
    · go_simp
      refine (HO.out ⟨ua, sa, ka⟩ ⟨ub, sb, kb⟩ _).mono ?_
      rintro e w1 ⟨rfl, hb1⟩
      have hB1 := hHeld.trans (hb1.mono hHeld.size)
      refine hK.out _ _ hB1 (fun hHeld => ?_)
      clear hb1 hB1
      clear hK K
      try simp only [Act.put, List.getElem_toArray, List.getElem_cons_succ, List.getElem_cons_zero, List.setIfInBounds_toArray, List.set_cons_zero, List.set_cons_succ]
      refine wpAnyH_ready (rs := [7]) (by kernel_rfl) (by simp) ?_
      refine AllReadyH.cons rfl (fun K hK => ?_) ?_
      · go_simp
        refine (HO.out ⟨ub, sb, kb⟩ ⟨uc, sc, kc⟩ _).mono ?_
        rintro e w2 ⟨rfl, hb2⟩
        have hB2 := hHeld.trans (hb2.mono hHeld.size)
        refine hK.out _ _ hB2 (fun hHeld => ?_)
        clear hb2 hB2
        clear hK K
        try simp only [Act.put, List.getElem_toArray, List.getElem_cons_succ, List.getElem_cons_zero, List.setIfInBounds_toArray, List.set_cons_zero, List.set_cons_succ]
        refine wpAnyH_ready (rs := [11]) (by kernel_rfl) (by simp) ?_
        refine AllReadyH.cons rfl (fun K hK => ?_) ?_
        · go_simp
          refine (HO.out ⟨ua, sa, ka⟩ ⟨uc, sc, kc⟩ _).mono ?_
          rintro e w3 ⟨rfl, hb3⟩
          have hB3 := hHeld.trans (hb3.mono hHeld.size)
          refine hK.out _ _ hB3 (fun hHeld => ?_)
          clear hb3 hB3
          clear hK K
          try simp only [Act.put, List.getElem_toArray, List.getElem_cons_succ, List.getElem_cons_zero, List.setIfInBounds_toArray, List.set_cons_zero, List.set_cons_succ]
          refine wpAnyH_take (i := 12) (v := ?_) rfl (by kernel_rfl) (by kernel_rfl) (by kernel_rfl) (fun _ _ _ h => h) (Or.inl ⟨by rfl, ?_⟩) (by assumption) ?_
          rotate_left
          · (intro w hSw; (try dsimp only at hSw); go_simp; try (with_reducible rfl))
          try simp only [Act.put, List.getElem_toArray, List.getElem_cons_succ, List.getElem_cons_zero, List.setIfInBounds_toArray, List.set_cons_zero, List.set_cons_succ]
          refine wpAnyH_take (i := 13) (v := ?_) rfl (by kernel_rfl) (by kernel_rfl) (by kernel_rfl) (fun _ _ _ h => h) (Or.inl ⟨by rfl, ?_⟩) (by assumption) ?_
          rotate_left
          · (intro w hSw; (try dsimp only at hSw); go_simp; try (with_reducible rfl))
          try simp only [Act.put, List.getElem_toArray, List.getElem_cons_succ, List.getElem_cons_zero, List.setIfInBounds_toArray, List.set_cons_zero, List.set_cons_succ]
          refine wpAnyH_take (i := 14) (v := ?_) rfl (by kernel_rfl) (by kernel_rfl) (by kernel_rfl) (fun _ _ _ h => h) (Or.inl ⟨by rfl, ?_⟩) (by assumption) ?_
          rotate_left
          · (intro w hSw; (try dsimp only at hSw); go_simp; try (with_reducible rfl))
          try simp only [Act.put, List.getElem_toArray, List.getElem_cons_succ, List.getElem_cons_zero, List.setIfInBounds_toArray, List.set_cons_zero, List.set_cons_succ]
          refine wpAnyH_done (by kernel_rfl) ?_ _
          obtain ⟨⟨k0, k1, k2⟩, ⟨l0, l1, l2⟩, -⟩ := HS.out w3 hHeld
          have hx3 := ordK_three how ⟨ua, sa, ka⟩ ⟨ub, sb, kb⟩
          have hba := ordK_anti how ⟨ua, sa, ka⟩ ⟨ub, sb, kb⟩
          have heq := ordK_eq how ⟨ua, sa, ka⟩ ⟨ub, sb, kb⟩
          have htr := ordK_trans how ⟨ua, sa, ka⟩ ⟨ub, sb, kb⟩ ⟨uc, sc, kc⟩
          generalize ordK how ⟨ua, sa, ka⟩ ⟨ub, sb, kb⟩ = x at *
          generalize ordK how ⟨ub, sb, kb⟩ ⟨uc, sc, kc⟩ = y at *
          generalize ordK how ⟨ua, sa, ka⟩ ⟨uc, sc, kc⟩ = z at *
          have hneg : wrap64 (- (-x)) = x := by rw [Int.neg_neg]; exact wrap64_in _ (by omega)
          generalize -x = x' at *
          have HA := Lib.hid hba; clear hba
          have HE := Lib.hid heq; clear heq
          have HX := Lib.hid hx3; clear hx3
          have HT := Lib.hid htr; clear htr
          have HD := Lib.hid hHeld
          go_wp2_with fail
          refine (HO.out ⟨ub, sb, kb⟩ ⟨ua, sa, ka⟩ _).mono ?_
          rw [HA.out]
          rintro e w4 ⟨rfl, hb4⟩
          have hB4 := HD.out.trans (hb4.mono HD.out.size)
          obtain ⟨⟨k0, k1, k2⟩, ⟨l0, l1, l2⟩, -⟩ := HS.out w4 hB4
          have HD4 := Lib.hid hB4; clear hB4 hb4
          go_wp2_with fail
          refine (HO.out ⟨ua, sa, ka⟩ ⟨ua, sa, ka⟩ _).mono ?_
          rw [ordK_refl]
          rintro e w5 ⟨rfl, hb5⟩
          have hB5 := HD4.out.trans (hb5.mono HD4.out.size)
          obtain ⟨⟨k0, k1, k2⟩, ⟨l0, l1, l2⟩, -⟩ := HS.out w5 hB5
          have HD5 := Lib.hid hB5; clear hB5 hb5
          have htr := HT.out
          clear HT HA HD HD4 HO HS hneg hHeld
          rcases HX.out with rfl | rfl | rfl
          · have hne : ¬ ((⟨ua, sa, ka⟩ : K) = ⟨ub, sb, kb⟩) := fun h => by have := HE.out.2 h; omega
            clear HE HX
            by_cases hy : 0 < y
            · clear htr
              by_cases h1 : ua.toList = ub.toList
              · by_cases h2 : sa = sb
                · have h3 : ¬ ka = kb := fun h3 => hne (K.ext' (toList_inj h1) h2 h3)
                  clear hne
                  go_wp2_with fail
                  refine (lives01_any _).mono ?_
                  rintro e w6 ⟨rfl, hb6⟩
                  go_wp2_with fail
                  go_ret
                  exact ⟨ret_bool rfl, (HB.out.trans (HD5.out.mono HB.out.size)).trans (hb6.mono (Nat.le_trans HB.out.size HD5.out.size))⟩
                · clear hne
                  go_wp2_with fail
                  refine (lives01_any _).mono ?_
                  rintro e w6 ⟨rfl, hb6⟩
                  go_wp2_with fail
                  go_ret
                  exact ⟨ret_bool rfl, (HB.out.trans (HD5.out.mono HB.out.size)).trans (hb6.mono (Nat.le_trans HB.out.size HD5.out.size))⟩
              · clear hne
                go_wp2_with fail
                refine (lives01_any _).mono ?_
                rintro e w6 ⟨rfl, hb6⟩
                go_wp2_with fail
                go_ret
                exact ⟨ret_bool rfl, (HB.out.trans (HD5.out.mono HB.out.size)).trans (hb6.mono (Nat.le_trans HB.out.size HD5.out.size))⟩
            · have hyf : decide (0 < y) = false := by simpa using hy
              have hz0 : z < 0 := (htr (by omega) (by omega)).2 (.inl (by omega))
              have hz1 : z ≤ 0 := by omega
              clear htr
              by_cases h1 : ua.toList = ub.toList
              · by_cases h2 : sa = sb
                · have h3 : ¬ ka = kb := fun h3 => hne (K.ext' (toList_inj h1) h2 h3)
                  clear hne
                  go_wp2_with fail
                  refine (lives01_any _).mono ?_
                  rintro e w6 ⟨rfl, hb6⟩
                  go_wp2_with fail
                  go_ret
                  exact ⟨ret_bool rfl, (HB.out.trans (HD5.out.mono HB.out.size)).trans (hb6.mono (Nat.le_trans HB.out.size HD5.out.size))⟩
                · clear hne
                  go_wp2_with fail
                  refine (lives01_any _).mono ?_
                  rintro e w6 ⟨rfl, hb6⟩
                  go_wp2_with fail
                  go_ret
                  exact ⟨ret_bool rfl, (HB.out.trans (HD5.out.mono HB.out.size)).trans (hb6.mono (Nat.le_trans HB.out.size HD5.out.size))⟩
              · clear hne
                go_wp2_with fail
                refine (lives01_any _).mono ?_
                rintro e w6 ⟨rfl, hb6⟩
                go_wp2_with fail
                go_ret
                exact ⟨ret_bool rfl, (HB.out.trans (HD5.out.mono HB.out.size)).trans (hb6.mono (Nat.le_trans HB.out.size HD5.out.size))⟩
          · have he := HE.out.1 rfl
            clear HE HX
            simp only [K.mk.injEq] at he
            obtain ⟨rfl, rfl, rfl⟩ := he
            by_cases hy : 0 < y
            · clear htr
              go_wp2_with fail
              refine (lives01_any _).mono ?_
              rintro e w6 ⟨rfl, hb6⟩
              go_wp2_with fail
              go_ret
              exact ⟨ret_bool rfl, (HB.out.trans (HD5.out.mono HB.out.size)).trans (hb6.mono (Nat.le_trans HB.out.size HD5.out.size))⟩
            · have hyf : decide (0 < y) = false := by simpa using hy
              have hz1 : z ≤ 0 := (htr (by omega) (by omega)).1
              clear htr
              go_wp2_with fail
              refine (lives01_any _).mono ?_
              rintro e w6 ⟨rfl, hb6⟩
              go_wp2_with fail
              go_ret
              exact ⟨ret_bool rfl, (HB.out.trans (HD5.out.mono HB.out.size)).trans (hb6.mono (Nat.le_trans HB.out.size HD5.out.size))⟩
          · have hne : ¬ ((⟨ua, sa, ka⟩ : K) = ⟨ub, sb, kb⟩) := fun h => by have := HE.out.2 h; omega
            clear HE HX htr
            by_cases h1 : ua.toList = ub.toList
            · by_cases h2 : sa = sb
              · have h3 : ¬ ka = kb := fun h3 => hne (K.ext' (toList_inj h1) h2 h3)
                clear hne
                go_wp2_with fail
                refine (lives01_any _).mono ?_
                rintro e w6 ⟨rfl, hb6⟩
                go_wp2_with fail
                go_ret
                exact ⟨ret_bool rfl, (HB.out.trans (HD5.out.mono HB.out.size)).trans (hb6.mono (Nat.le_trans HB.out.size HD5.out.size))⟩
              · clear hne
                go_wp2_with fail
                refine (lives01_any _).mono ?_
                rintro e w6 ⟨rfl, hb6⟩
                go_wp2_with fail
                go_ret
                exact ⟨ret_bool rfl, (HB.out.trans (HD5.out.mono HB.out.size)).trans (hb6.mono (Nat.le_trans HB.out.size HD5.out.size))⟩
            · clear hne
              go_wp2_with fail
              refine (lives01_any _).mono ?_
              rintro e w6 ⟨rfl, hb6⟩
              go_wp2_with fail
              go_ret
              exact ⟨ret_bool rfl, (HB.out.trans (HD5.out.mono HB.out.size)).trans (hb6.mono (Nat.le_trans HB.out.size HD5.out.size))⟩
        exact AllReadyH.nil
      exact AllReadyH.nil
    exact AllReadyH.nil
end Go.Proofs.Ytbgmbnmdmjbciaa
