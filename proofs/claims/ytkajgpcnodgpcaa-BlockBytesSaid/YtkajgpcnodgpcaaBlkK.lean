/-
  The program's Build.
-/
import Derived.Test.YtkajgpcnodgpcaaBlkJ
import Derived.Deep.RegionHeld3
import Derived.Deep.DrawnRows
namespace Go.Proofs.Ytkajgpcnodgpcaa
set_option linter.unusedSimpArgs false
set_option linter.unusedVariables false
open Go.RowKit Go.IntWalk
attribute [local go_sem ↓] Go.wp_at_zero Go.wp_at_succ

theorem wraps_j (j : Nat) (h : j ≤ 9000000000000000000) : IntKind.i64.wrap (j : Int) = (j : Int) ∧ wrap64 (j : Int) = (j : Int) ∧ IntKind.i64.wrap ((j : Int) + 1) = (j : Int) + 1 ∧ wrap64 ((j : Int) + 1) = (j : Int) + 1 ∧ ((j : Int) + 1).toNat = j + 1 :=
  ⟨i64_in _ (by omega), wrap64_in _ (by omega), i64_in _ (by omega), wrap64_in _ (by omega), by omega⟩
set_option maxHeartbeats 4000000 in
set_option maxRecDepth 100000 in
theorem bBuild_any (how R : Int) (l : List E) (A : Option Addr) (cap : Nat) (w : World) (hll : l.length ≤ 140737488351240) (hs : ∀ e ∈ l, 0 ≤ e.k.s)
    (hr : Rd w w.heap.size A (entsC l)) :
    Calls Try.prog 7 #[.int .i64 how, .int .i64 R, .slice A l.length cap] w fun e w' => ∃ v, e = .returned (.tuple #[v, .int .i64 (buildR how R l).2]) ∧ Below w.heap.size w w' ∧ Own w' w.heap.size 5 1 v (buildR how R l).1.length ((buildR how R l).1.map byteV) := by
  rcases h0 : (how == 0 || how == 1) with _ | _
  · have hz : buildR how R l = ([], 1) := by unfold buildR; rw [if_pos (.inl h0)]
    rw [hz]
    go_enter Try.func7, Try.ntmps7
    go_wp2_with fail
    refine (bHow_any _ _).mono ?_
    rw [h0]
    rintro e w1 ⟨rfl, rfl⟩
    go_wp2
    go_ret2
    exact ⟨_, rfl, Below.refl _ _, Own.nil _ _ _ _⟩
  by_cases h1 : R < 1
  · have q1 : decide (R < 1) = true := by simpa using h1
    have hz : buildR how R l = ([], 1) := by unfold buildR; rw [if_pos (.inr (.inl h1))]
    rw [hz]
    go_enter Try.func7, Try.ntmps7
    go_wp2_with fail
    refine (bHow_any _ _).mono ?_
    rw [h0]
    rintro e w1 ⟨rfl, rfl⟩
    go_wp2
    go_ret2
    exact ⟨_, rfl, Below.refl _ _, Own.nil _ _ _ _⟩
  by_cases h2 : 1024 < R
  · have q1 : decide (R < 1) = false := by simpa using h1
    have q2 : decide (1024 < R) = true := by simpa using h2
    have hz : buildR how R l = ([], 1) := by unfold buildR; rw [if_pos (.inr (.inr h2))]
    rw [hz]
    go_enter Try.func7, Try.ntmps7
    go_wp2_with fail
    refine (bHow_any _ _).mono ?_
    rw [h0]
    rintro e w1 ⟨rfl, rfl⟩
    go_wp2
    go_ret2
    exact ⟨_, rfl, Below.refl _ _, Own.nil _ _ _ _⟩
  have q1 : decide (R < 1) = false := by simpa using h1
  have q2 : decide (1024 < R) = false := by simp; omega
  by_cases h3 : 65536 < l.length
  · have q3 : decide ((65536 : Int) < (l.length : Int)) = true := by simp; omega
    have hz : buildR how R l = ([], 2) := by unfold buildR; rw [if_neg (by rw [h0]; simp; omega), if_pos h3]
    rw [hz]
    go_enter Try.func7, Try.ntmps7
    go_wp2_with fail
    refine (bHow_any _ _).mono ?_
    rw [h0]
    rintro e w1 ⟨rfl, rfl⟩
    go_wp2
    go_ret2
    exact ⟨_, rfl, Below.refl _ _, Own.nil _ _ _ _⟩
  have q3 : decide ((65536 : Int) < (l.length : Int)) = false := by simp; omega
  obtain ⟨R', hR'⟩ : ∃ R' : Nat, R = (R' : Int) := ⟨R.toNat, by omega⟩
  subst hR'
  have hz : buildR how (R' : Int) l = if chkB how none l ≠ 0 then ([], chkB how none l) else if 4194304 < (endL (wst R' l)).length then ([], 2) else (endL (wst R' l), 0) := by
    unfold buildR; rw [if_neg (by rw [h0]; simp; omega), if_neg h3]; rfl
  obtain ⟨rz, hrz⟩ : ∃ rz, buildR how (R' : Int) l = rz := ⟨_, rfl⟩
  rw [hrz]
  rw [hrz] at hz
  have HZ := Lib.hid hz; clear hz hrz
  have H0 := Lib.hid h0; clear h0
  go_enter Try.func7, Try.ntmps7
  go_wp2_with fail
  refine (bHow_any _ _).mono ?_
  rw [H0.out]
  rintro e w0 ⟨rfl, rfl⟩
  have HW0 := Lib.hid (new_Wr w0 R')
  go_wp2_with fail
  go_loopw [9, 10, 11, 12, 33] (fun _ _ _ _ s33 wr => ∃ (k : Nat) (lv bv wv : Value), k ≤ l.length ∧ s33 = .int .i64 k ∧ Hid (Below w0.heap.size w0 wr) ∧ Hid (Wr wr w0.heap.size w0.heap.size R' (wst R' (l.take k)) lv bv wv) ∧ Hid (WBd (wst R' (l.take k)) k) ∧ Hid (chkB how none l = chkB how (ahead l k) (l.drop k))) (fun _ _ _ _ s33 _ => l.length - (intOf s33).toNat)
  case atStart => exact ⟨0, _, _, _, Nat.zero_le _, rfl, (Below.refl _ _).alloc (Nat.le_refl _) _, HW0.out, ⟨rfl, Nat.le_refl _, Nat.le_refl _, Nat.zero_le _, fun _ h => by cases h⟩, rfl⟩
  case round =>
    clear HW0
    obtain ⟨k, lv, bv, wv, hk, rfl, HB, HW, HD, HC⟩ := hrel
    by_cases hlt : k < l.length
    · have HR := Lib.hid hr
      obtain ⟨ab, ao, rfl, hab, t0, t1, t2, t3⟩ := ent_at hr hlt
      have hse := hs l[k] (List.getElem_mem hlt)
      have hst : wst R' (l.take (k + 1)) = addL R' (wst R' (l.take k)) l[k] := by rw [List.take_succ_eq_append_getElem hlt, wst_snoc]
      have hcd := chkB_drop how l k hlt
      have hcN : chkN how (ahead l k) l[k] = if chkE l[k] = 0 then (match ahead l k with | none => 0 | some q => if 0 ≤ ordK how q l[k].k then 1 else 0) else chkE l[k] := rfl
      have HST := Lib.hid hst; clear hst
      have HCD := Lib.hid hcd; clear hcd
      generalize wst R' (l.take k) = st at *
      generalize l[k] = ee at *
      obtain ⟨⟨u, s, q⟩, v⟩ := ee
      dsimp only at t0 t1 t2 t3 hse hcN
      generalize chkN how (ahead l k) ⟨⟨u, s, q⟩, v⟩ = cn at *
      have HCN := Lib.hid hcN; clear hcN
      have d0 := (HB.out.cell (p := ⟨ab, ao + k * 4, none⟩) hab).trans t0
      have d1 := (HB.out.cell (p := ⟨ab, ao + k * 4 + 1, none⟩) hab).trans t1
      have d2 := (HB.out.cell (p := ⟨ab, ao + k * 4 + 2, none⟩) hab).trans t2
      have d3 := (HB.out.cell (p := ⟨ab, ao + k * 4 + 3, none⟩) hab).trans t3
      clear t0 t1 t2 t3 hr
      have hS := fun w => bShape_any ⟨⟨u, s, q⟩, v⟩ w hse
      simp only [entC] at hS
      have HSH := Lib.hid hS; clear hS
      have HAL := Lib.hid (HW.out.move ((Below.refl _ wr).alloc (Nat.le_refl _) (.cells #[.string u, .int .u64 s, .int .i64 q, .string v] 48)))
      have HB1 := Lib.hid (HB.out.alloc HB.out.size (.cells #[.string u, .int .u64 s, .int .i64 q, .string v] 48))
      go_wp2_with fail
      refine (HSH.out _).mono ?_
      rintro e w1 ⟨kv, rfl, hb1, hkv⟩
      have hbx := (Blk.new wr 48 #[.string u, .int .u64 s, .int .i64 q, .string v]).below hb1 (by simp)
      have HBX := Lib.hid hbx; clear hbx
      clear d3
      have x3 : w1.cell? ⟨wr.heap.size, 3, none⟩ = some (.string v) := HBX.out.cell 3
      have hs1 := hb1.size
      simp only [World.size_alloc] at hs1
      have HB2 := Lib.hid (HB1.out.trans (hb1.mono HB1.out.size))
      have HW2 := Lib.hid (HAL.out.move hb1)
      clear hb1 d0 d1 d2 HB1 HAL
      have hwz := HB.out.size
      by_cases hce : chkE ⟨⟨u, s, q⟩, v⟩ = 0
      · have hkv := hkv hce
        obtain ⟨hck, hvs⟩ := chkE_ok hce
        have hbd := chk_bounds hck hse
        dsimp only at hbd hvs
        have hel := encL_ok hck
        dsimp only at hel
        have hcn := HCN.out
        rw [if_pos hce] at hcn
        rw [hce]
        have hadd : addL R' st ⟨⟨u, s, q⟩, v⟩ = addE R' st (encL ⟨u, s, q⟩) v := rfl
        rw [hadd] at HST
        clear hadd hck HCN hce
        try dsimp only at hkv
        generalize encL ⟨u, s, q⟩ = kl at *
        have hkl : 8 ≤ kl.length ∧ kl.length ≤ 1032 := by omega
        clear hel hbd
        obtain ⟨kA, kc, rfl, hkc, -, hkr⟩ := hkv.rd
        obtain ⟨kg, kc', hke, hkg, hkg2⟩ := hkv.form (by omega)
        injection hke with hke1 hke2 hke3
        subst hke1
        clear hke2 hke3 kc' hkv
        simp only [World.size_alloc] at hkg
        have HKR := Lib.hid hkr; clear hkr
        have hsw := HW.out
        obtain ⟨hblk, hbg, -, hob, how', -, -, -⟩ := hsw
        have hbl := hblk.lt
        have hne1 : some kg ≠ bv.ownBlock := fun h => by have := (hob.lt _ h.symm).2; omega
        have hne2 : some kg ≠ wv.ownBlock := fun h => by have := (how'.lt _ h.symm).2; omega
        have HNE1 := Lib.hid hne1
        have HNE2 := Lib.hid hne2
        obtain ⟨hdn, hdb, hdw, hdl, hdx⟩ := HD.out
        have HWB := Lib.hid (HD.out.step (R := R') (kl := kl) (v := v) (by omega) hvs)
        clear hob how' hne1 hne2 HD HW hbg hblk
        rcases k with _ | j
        · have hah : ahead l 0 = none := rfl
          rw [hah] at hcn
          go_wp2_with fail
          go_quiet (fail)
          have HB3 := Lib.hid (below_drewN (Below.refl w1.heap.size w1) nq)
          generalize w1.drewN nq = w2 at *
          have d3 := (HB3.out.cell (p := ⟨wr.heap.size, 3, none⟩) (show wr.heap.size < w1.heap.size by omega)).trans x3
          have HADD := Lib.hid (bAdd_any w2 w0.heap.size w0.heap.size R' st lv bv wv kg kc kl v (by omega) (by omega) (Nat.le_trans HB2.out.size HB3.out.size) (HW2.out.move HB3.out) (by omega) (by omega) (by omega) hdl (HKR.out.next HB3.out) (by omega) (by omega) hkc (by omega) (Nat.lt_of_lt_of_le hkg2 HB3.out.size) HNE1.out HNE2.out (by omega))
          clear hdn hdb hdw hdl hdx
          go_wp2_with fail
          refine HADD.out.mono ?_
          rintro e w3 ⟨rfl, ⟨lv3, bv3, wv3, hW3⟩, hb3, hz3⟩
          have HW3 := Lib.hid hW3
          have HB4 := Lib.hid ((HB2.out.trans (HB3.out.mono HB2.out.size)).trans hb3)
          clear hW3 hb3
          go_wp2_with fail
          go_roundw
          case rel => exact ⟨0 + 1, lv3, bv3, wv3, by omega, by go_num, HB4.out, by rw [HST.out]; exact HW3.out, by rw [HST.out]; exact HWB.out, by rw [HC.out, HCD.out, hcn]; simp [Hid]⟩
          case measure => simp [intOf]; omega
        · have hj : j < l.length := by omega
          obtain ⟨ab', ao', hE', -, p0, p1, p2, -⟩ := ent_at HR.out hj
          injection hE' with hE'
          injection hE' with e1 e2
          subst e1 e2
          have hah : ahead l (j + 1) = some l[j].k := by unfold ahead; simp [hj]
          rw [hah] at hcn
          clear hah
          generalize l[j] = pe at *
          obtain ⟨⟨u', s', q'⟩, v'⟩ := pe
          dsimp only at hcn p0 p1 p2
          have hO := fun w => cOrder_any how s' q' s q u' u w
          generalize ordK how ⟨u', s', q'⟩ ⟨u, s, q⟩ = o at *
          have HO := Lib.hid hO; clear hO
          have HCN := Lib.hid hcn; clear hcn
          have hSS : ∀ w', Below w1.heap.size w1 w' →
              (w'.cell? ⟨ab, ao + j * 4, none⟩ = some (.string u') ∧ w'.cell? ⟨ab, ao + j * 4 + 1, none⟩ = some (.int .u64 s') ∧ w'.cell? ⟨ab, ao + j * 4 + 2, none⟩ = some (.int .i64 q')) ∧
              (w'.cell? ⟨wr.heap.size, 0, none⟩ = some (.string u) ∧ w'.cell? ⟨wr.heap.size, 1, none⟩ = some (.int .u64 s) ∧ w'.cell? ⟨wr.heap.size, 2, none⟩ = some (.int .i64 q)) := by
            intro w' h
            have hB := HB2.out.trans (h.mono HB2.out.size)
            have hX := HBX.out.below h (by omega)
            exact ⟨⟨(hB.cell (p := ⟨ab, _, none⟩) hab).trans p0, (hB.cell (p := ⟨ab, _, none⟩) hab).trans p1, (hB.cell (p := ⟨ab, _, none⟩) hab).trans p2⟩, hX.cell 0, hX.cell 1, hX.cell 2⟩
          have HSS := Lib.hid hSS; clear hSS p0 p1 p2
          have hji : (0 ≤ (j : Int) + 1 ∧ (j : Int) + 1 < (l.length : Int)) = True := by simp; omega
          obtain ⟨hwj, hwj2, hwk, hwk2, hwt⟩ := wraps_j j (by omega)
          go_wp2_with fail
          refine wp_region_held_drew (S := fun w' => Below w1.heap.size w1 w') (by kernel_rfl) (Below.refl _ _).drew (fun hHeld => ?_)
          refine wpAnyH_take (i := 0) (v := ?_) rfl (by kernel_rfl) (by kernel_rfl) (by kernel_rfl) (fun _ _ _ h => h) (Or.inl ⟨by rfl, ?_⟩) (by assumption) ?_
          rotate_left
          · (intro w hSw; obtain ⟨⟨k0, k1, k2⟩, ⟨l0, l1, l2⟩⟩ := HSS.out w hSw; go_simp; try (with_reducible rfl))
          try simp only [Act.put, List.getElem_toArray, List.getElem_cons_succ, List.getElem_cons_zero, List.setIfInBounds_toArray, List.set_cons_zero, List.set_cons_succ]
          refine wpAnyH_take (i := 1) (v := ?_) rfl (by kernel_rfl) (by kernel_rfl) (by kernel_rfl) (fun _ _ _ h => h) (Or.inl ⟨by rfl, ?_⟩) (by assumption) ?_
          rotate_left
          · (intro w hSw; obtain ⟨⟨k0, k1, k2⟩, ⟨l0, l1, l2⟩⟩ := HSS.out w hSw; go_simp; try (with_reducible rfl))
          try simp only [Act.put, List.getElem_toArray, List.getElem_cons_succ, List.getElem_cons_zero, List.setIfInBounds_toArray, List.set_cons_zero, List.set_cons_succ]
          refine wpAnyH_take (i := 2) (v := ?_) rfl (by kernel_rfl) (by kernel_rfl) (by kernel_rfl) (fun _ _ _ h => h) (Or.inl ⟨by rfl, ?_⟩) (by assumption) ?_
          rotate_left
          · (intro w hSw; obtain ⟨⟨k0, k1, k2⟩, ⟨l0, l1, l2⟩⟩ := HSS.out w hSw; go_simp; try (with_reducible rfl))
          try simp only [Act.put, List.getElem_toArray, List.getElem_cons_succ, List.getElem_cons_zero, List.setIfInBounds_toArray, List.set_cons_zero, List.set_cons_succ]
          refine wpAnyH_take (i := 3) (v := ?_) rfl (by kernel_rfl) (by kernel_rfl) (by kernel_rfl) (fun _ _ _ h => h) (Or.inl ⟨by rfl, ?_⟩) (by assumption) ?_
          rotate_left
          · (intro w hSw; obtain ⟨⟨k0, k1, k2⟩, ⟨l0, l1, l2⟩⟩ := HSS.out w hSw; go_simp; try (with_reducible rfl))
          try simp only [Act.put, List.getElem_toArray, List.getElem_cons_succ, List.getElem_cons_zero, List.setIfInBounds_toArray, List.set_cons_zero, List.set_cons_succ]
          refine wpAnyH_take (i := 4) (v := ?_) rfl (by kernel_rfl) (by kernel_rfl) (by kernel_rfl) (fun _ _ _ h => h) (Or.inl ⟨by rfl, ?_⟩) (by assumption) ?_
          rotate_left
          · (intro w hSw; obtain ⟨⟨k0, k1, k2⟩, ⟨l0, l1, l2⟩⟩ := HSS.out w hSw; go_simp; try (with_reducible rfl))
          try simp only [Act.put, List.getElem_toArray, List.getElem_cons_succ, List.getElem_cons_zero, List.setIfInBounds_toArray, List.set_cons_zero, List.set_cons_succ]
          refine wpAnyH_take (i := 5) (v := ?_) rfl (by kernel_rfl) (by kernel_rfl) (by kernel_rfl) (fun _ _ _ h => h) (Or.inl ⟨by rfl, ?_⟩) (by assumption) ?_
          rotate_left
          · (intro w hSw; obtain ⟨⟨k0, k1, k2⟩, ⟨l0, l1, l2⟩⟩ := HSS.out w hSw; go_simp; try (with_reducible rfl))
          try simp only [Act.put, List.getElem_toArray, List.getElem_cons_succ, List.getElem_cons_zero, List.setIfInBounds_toArray, List.set_cons_zero, List.set_cons_succ]
          refine wpAnyH_take (i := 6) (v := ?_) rfl (by kernel_rfl) (by kernel_rfl) (by kernel_rfl) (fun _ _ _ h => h) (Or.inl ⟨by rfl, ?_⟩) (by assumption) ?_
          rotate_left
          · (intro w hSw; obtain ⟨⟨k0, k1, k2⟩, ⟨l0, l1, l2⟩⟩ := HSS.out w hSw; go_simp; try (with_reducible rfl))
          try simp only [Act.put, List.getElem_toArray, List.getElem_cons_succ, List.getElem_cons_zero, List.setIfInBounds_toArray, List.set_cons_zero, List.set_cons_succ]
          refine wpAnyH_take (i := 7) (v := ?_) rfl (by kernel_rfl) (by kernel_rfl) (by kernel_rfl) (fun _ _ _ h => h) (Or.inl ⟨by rfl, ?_⟩) (by assumption) ?_
          rotate_left
          · (intro w hSw; obtain ⟨⟨k0, k1, k2⟩, ⟨l0, l1, l2⟩⟩ := HSS.out w hSw; go_simp; try (with_reducible rfl))
          try simp only [Act.put, List.getElem_toArray, List.getElem_cons_succ, List.getElem_cons_zero, List.setIfInBounds_toArray, List.set_cons_zero, List.set_cons_succ]
          refine wpAnyH_take (i := 8) (v := ?_) rfl (by kernel_rfl) (by kernel_rfl) (by kernel_rfl) (fun _ _ _ h => h) (Or.inl ⟨by rfl, ?_⟩) (by assumption) ?_
          rotate_left
          · (intro w hSw; obtain ⟨⟨k0, k1, k2⟩, ⟨l0, l1, l2⟩⟩ := HSS.out w hSw; go_simp; try (with_reducible rfl))
          try simp only [Act.put, List.getElem_toArray, List.getElem_cons_succ, List.getElem_cons_zero, List.setIfInBounds_toArray, List.set_cons_zero, List.set_cons_succ]
          refine wpAnyH_take (i := 9) (v := ?_) rfl (by kernel_rfl) (by kernel_rfl) (by kernel_rfl) (fun _ _ _ h => h) (Or.inl ⟨by rfl, ?_⟩) (by assumption) ?_
          rotate_left
          · (intro w hSw; obtain ⟨⟨k0, k1, k2⟩, ⟨l0, l1, l2⟩⟩ := HSS.out w hSw; go_simp; try (with_reducible rfl))
          try simp only [Act.put, List.getElem_toArray, List.getElem_cons_succ, List.getElem_cons_zero, List.setIfInBounds_toArray, List.set_cons_zero, List.set_cons_succ]
          refine wpAnyH_take (i := 10) (v := ?_) rfl (by kernel_rfl) (by kernel_rfl) (by kernel_rfl) (fun _ _ _ h => h) (Or.inl ⟨by rfl, ?_⟩) (by assumption) ?_
          rotate_left
          · (intro w hSw; obtain ⟨⟨k0, k1, k2⟩, ⟨l0, l1, l2⟩⟩ := HSS.out w hSw; go_simp; try (with_reducible rfl))
          try simp only [Act.put, List.getElem_toArray, List.getElem_cons_succ, List.getElem_cons_zero, List.setIfInBounds_toArray, List.set_cons_zero, List.set_cons_succ]
          refine wpAnyH_take (i := 11) (v := ?_) rfl (by kernel_rfl) (by kernel_rfl) (by kernel_rfl) (fun _ _ _ h => h) (Or.inl ⟨by rfl, ?_⟩) (by assumption) ?_
          rotate_left
          · (intro w hSw; obtain ⟨⟨k0, k1, k2⟩, ⟨l0, l1, l2⟩⟩ := HSS.out w hSw; go_simp; try (with_reducible rfl))
          try simp only [Act.put, List.getElem_toArray, List.getElem_cons_succ, List.getElem_cons_zero, List.setIfInBounds_toArray, List.set_cons_zero, List.set_cons_succ]
          refine wpAnyH_ready (rs := [12]) (by kernel_rfl) (by simp) ?_
          refine AllReadyH.cons rfl (fun K hK => ?_) ?_
          · go_simp
            refine (HO.out _).mono ?_
            rintro e w2 ⟨rfl, hb3⟩
            have hB3 := hHeld.trans (hb3.mono hHeld.size)
            refine hK.out _ _ hB3 (fun hHeld => ?_)
            clear hb3 hB3
            clear hK K
            try simp only [Act.put, List.getElem_toArray, List.getElem_cons_succ, List.getElem_cons_zero, List.setIfInBounds_toArray, List.set_cons_zero, List.set_cons_succ]
            refine wpAnyH_take (i := 13) (v := ?_) rfl (by kernel_rfl) (by kernel_rfl) (by kernel_rfl) (fun _ _ _ h => h) (Or.inl ⟨by rfl, ?_⟩) (by assumption) ?_
            rotate_left
            · (intro w hSw; (try dsimp only at hSw); go_simp; try (with_reducible rfl))
            try simp only [Act.put, List.getElem_toArray, List.getElem_cons_succ, List.getElem_cons_zero, List.setIfInBounds_toArray, List.set_cons_zero, List.set_cons_succ]
            refine wpAnyH_take (i := 14) (v := ?_) rfl (by kernel_rfl) (by kernel_rfl) (by kernel_rfl) (fun _ _ _ h => h) (Or.inl ⟨by rfl, ?_⟩) (by assumption) ?_
            rotate_left
            · (intro w hSw; (try dsimp only at hSw); go_simp; try (with_reducible rfl))
            try simp only [Act.put, List.getElem_toArray, List.getElem_cons_succ, List.getElem_cons_zero, List.setIfInBounds_toArray, List.set_cons_zero, List.set_cons_succ]
            refine wpAnyH_done (by kernel_rfl) ?_ _
            have HB3 := Lib.hid hHeld
            clear hHeld hwj hwj2 hwk hwk2 hwt hji
            by_cases ho : 0 ≤ o
            · have hd : decide (0 ≤ o) = true := by simpa using ho
              have hcn := HCN.out
              rw [if_pos ho] at hcn
              have hq : rz = ([], 1) := by rw [HZ.out, HC.out, HCD.out, hcn]; simp
              subst hq
              clear hcn
              go_wp2
              go_ret2
              exact ⟨_, rfl, HB2.out.trans (HB3.out.mono HB2.out.size), Own.nil _ _ _ _⟩
            · have hd : decide (0 ≤ o) = false := by simp; omega
              have hcn := HCN.out
              rw [if_neg ho] at hcn
              have hcn : cn = 0 := hcn
              have d3 := (HB3.out.cell (p := ⟨wr.heap.size, 3, none⟩) (show wr.heap.size < w1.heap.size by omega)).trans x3
              have HADD := Lib.hid (bAdd_any w2 w0.heap.size w0.heap.size R' st lv bv wv kg kc kl v (by omega) (by omega) (Nat.le_trans HB2.out.size HB3.out.size) (HW2.out.move HB3.out) (by omega) (by omega) (by omega) hdl (HKR.out.next HB3.out) (by omega) (by omega) hkc (by omega) (Nat.lt_of_lt_of_le hkg2 HB3.out.size) HNE1.out HNE2.out (by omega))
              clear hdn hdb hdw hdl hdx
              go_wp2_with fail
              refine HADD.out.mono ?_
              rintro e w3 ⟨rfl, ⟨lv3, bv3, wv3, hW3⟩, hb3, hz3⟩
              have HW3 := Lib.hid hW3
              have HB4 := Lib.hid ((HB2.out.trans (HB3.out.mono HB2.out.size)).trans hb3)
              clear hW3 hb3
              go_wp2_with fail
              go_roundw
              case rel => exact ⟨(j + 1) + 1, lv3, bv3, wv3, by omega, by go_num, HB4.out, by rw [HST.out]; exact HW3.out, by rw [HST.out]; exact HWB.out, by rw [HC.out, HCD.out, hcn]; simp [Hid]⟩
              case measure => simp [intOf]; omega
          exact AllReadyH.nil
      · have hcb : (chkE ⟨⟨u, s, q⟩, v⟩ == 0) = false := by simpa using hce
        have hcn := HCN.out
        rw [if_neg hce] at hcn
        generalize chkE ⟨⟨u, s, q⟩, v⟩ = ce at *
        have hq : rz = ([], ce) := by rw [HZ.out, HC.out, HCD.out, hcn, if_neg hce, if_pos hce]
        subst hq
        clear hcn
        go_wp2
        go_ret2
        exact ⟨_, rfl, HB2.out, Own.nil _ _ _ _⟩
    · obtain rfl : k = l.length := by omega
      have hc0 : chkB how none l = 0 := by rw [HC.out, List.drop_length]; rfl
      have hz := HZ.out
      rw [hc0, if_neg (by simp)] at hz
      rw [List.take_length] at HW HD
      obtain ⟨hdn, hdb, hdw, hdl, hdx⟩ := HD.out
      have HEND := Lib.hid (bEnd_any wr w0.heap.size w0.heap.size R' _ lv bv wv HB.out.size HW.out (by omega) (by omega) (fun x hx => by have := hdx x hx; omega))
      clear hdn hdb hdw hdl hdx HD HW HC hc0 HZ
      generalize endL (wst R' l) = el at *
      have HZ2 := Lib.hid hz; clear hz
      go_wp2_with fail
      refine HEND.out.mono ?_
      rintro e w3 ⟨v3, rfl, hb3, hz3, hv3⟩
      obtain ⟨vA, vc, rfl, -⟩ := hv3.rd
      have HB1 := Lib.hid (HB.out.trans hb3)
      have HV := Lib.hid hv3
      clear hb3 hv3
      by_cases hbig : 4194304 < el.length
      · have hd : decide ((4194304 : Int) < (el.length : Int)) = true := by simp; omega
        go_wp2_with fail
        go_ret2
        have hz := HZ2.out
        rw [if_pos hbig] at hz
        rw [hz]
        exact ⟨_, rfl, HB1.out, Own.nil _ _ _ _⟩
      · have hd : decide ((4194304 : Int) < (el.length : Int)) = false := by simp; omega
        go_wp2_with fail
        go_ret2
        have hz := HZ2.out
        rw [if_neg hbig] at hz
        rw [hz]
        exact ⟨_, rfl, HB1.out, HV.out⟩
end Go.Proofs.Ytkajgpcnodgpcaa
