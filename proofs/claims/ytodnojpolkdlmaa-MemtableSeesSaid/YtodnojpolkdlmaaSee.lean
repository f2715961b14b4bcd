/-
  The law MemtableSees, walked.
-/
import Derived.Test.YtodnojpolkdlmaaSeeA
import Derived.Test.YtodnojpolkdlmaaLawS
namespace Go.Proofs.Ytodnojpolkdlmaa
set_option linter.unusedSimpArgs false
set_option linter.unusedVariables false
open Go.RowKit Go.IntWalk
attribute [local go_sem ↓] Go.wp_at_zero Go.wp_at_succ

set_option maxHeartbeats 4000000 in
set_option maxRecDepth 100000 in
theorem memSees_any (A A2 : Option Addr) (cap cap2 : Nat) (l more : List Rc) (key : ByteArray) (w : World) (hl : l.length * 48 ≤ 140737488351232) (hm : more.length * 48 ≤ 140737488351232) (hr : Rd w w.heap.size A (rcsC l)) (hr2 : Rd w w.heap.size A2 (rcsC more)) :
    Calls Try.prog 3 #[.slice A l.length cap, .slice A2 more.length cap2, .string key] w fun e w' => e = .returned (.bool true) ∧ Below w.heap.size w w' := by
  have hb0 : Below w.heap.size w (w.alloc (.cells #[.int .u8 1, .int .u8 2, .int .u8 3] 5)) := (Below.refl _ w).alloc (Nat.le_refl _) _
  have hN1 := mNew_tab 0 (some ⟨w.heap.size, 0, none⟩) 3 [1, 2, 3] (w.alloc (.cells #[.int .u8 1, .int .u8 2, .int .u8 3] 5)) (.inl rfl) (by decide) (by
    have := Rd.new w #[.int .u8 1, .int .u8 2, .int .u8 3] 5
    have e : (#[.int .u8 1, .int .u8 2, .int .u8 3] : Array Value).toList = ([1, 2, 3] : List UInt8).map byteV := rfl
    rw [World.size_alloc]; rw [e] at this; exact this) (fun h => by cases h) (fun a h => by injection h with h; rw [← h])
  have HN1 := Lib.hid hN1
  have HB0 := Lib.hid hb0
  have HR := Lib.hid hr
  have HR2 := Lib.hid hr2
  clear hN1 hb0 hr hr2
  go_enter Try.func3, Try.ntmps3
  go_wp2_with fail
  refine HN1.out.mono ?_
  rintro e w1 ⟨ga, rfl, hb1, hn1⟩
  have HNA := Lib.hid hn1
  have HB1 := Lib.hid hb1
  clear hb1 hn1 HN1
  go_wp2_with fail
  refine (mNew_tab 0 none 0 [] w1 (.inl rfl) (by decide) Rd.nil (fun _ => ⟨rfl, rfl⟩) (fun a h => by cases h)).mono ?_
  rintro e w2 ⟨gb, rfl, hb2, hn2⟩
  have HW2 := Lib.hid (Two.new (B := w.heap.size) HNA.out (by simp) HB1.out hn2 hb2)
  have HB2 := Lib.hid ((HB0.out.trans (HB1.out.mono (by simp))).trans (hb2.mono (Nat.le_trans (by simp) HB1.out.size)))
  clear hb2 hn2 HNA HB1 HB0
  by_cases hlen : (8192 : Int) < (l.length : Int) + (more.length : Int)
  · have hd : decide ((8192 : Int) < (l.length : Int) + (more.length : Int)) = true := decide_eq_true hlen
    clear hlen
    go_wp2_with fail
    refine (lives07_any _).mono ?_
    rintro e w3 ⟨rfl, hb3⟩
    go_wp2_with fail
    go_ret
    exact ⟨rfl, HB2.out.trans (hb3.mono HB2.out.size)⟩
  · have hd : decide ((8192 : Int) < (l.length : Int) + (more.length : Int)) = false := decide_eq_false hlen
    have hll : l.length ≤ 8192 ∧ more.length ≤ 8192 := by omega
    clear hlen
    go_wp2_with fail
    clear hd
    go_loopw [11] (fun s11 wr => ∃ k : Nat, k ≤ l.length ∧ s11 = .int .i64 k ∧ Hid (Below w.heap.size w wr) ∧ Hid (Two w.heap.size wr ga gb 0 [1, 2, 3] [] (addsS 0 emptyS 0 (l.take k)) (addsS 0 emptyS 0 (l.take k)))) (fun s11 _ => l.length - (intOf s11).toNat)
    case atStart => exact ⟨0, Nat.zero_le _, rfl, HB2.out, by rw [List.take_zero]; exact HW2.out⟩
    case round =>
      clear HW2 HB2
      obtain ⟨k, hk, rfl, HB, HT⟩ := hrel
      by_cases hkl : k < l.length
      · obtain ⟨b, off, rfl, hbl, t0, t1, t2, t3⟩ := rc_at HR.out hkl
        have hst := addsS_step 0 emptyS 0 l k hkl
        rw [show (0 : Int) + ((k : Nat) : Int) = (k : Int) by omega] at hst
        have HOK := Lib.hid (TOk.adds (l.take k) emptyS 0 (TOk.empty 0))
        generalize l[k] = r at *
        generalize addsS 0 emptyS 0 (l.take k) = S at *
        have HST := Lib.hid hst
        clear hst
        obtain ⟨f, q, ky, v⟩ := r
        dsimp only at t0 t1 t2 t3
        have hSS : ∀ w', Below w.heap.size w w' → w'.cell? ⟨b, off + k * 4, none⟩ = some (.int .u32 f) ∧ w'.cell? ⟨b, off + k * 4 + 1, none⟩ = some (.int .i64 q) ∧ w'.cell? ⟨b, off + k * 4 + 2, none⟩ = some (.string ky) ∧ w'.cell? ⟨b, off + k * 4 + 3, none⟩ = some (.string v) := fun w' h' =>
          ⟨(h'.cell (p := ⟨b, off + k * 4, none⟩) hbl).trans t0, (h'.cell (p := ⟨b, off + k * 4 + 1, none⟩) hbl).trans t1, (h'.cell (p := ⟨b, off + k * 4 + 2, none⟩) hbl).trans t2, (h'.cell (p := ⟨b, off + k * 4 + 3, none⟩) hbl).trans t3⟩
        have HSS := Lib.hid hSS
        have hki : (0 : Int) ≤ (k : Int) ∧ (k : Int) < (l.length : Int) := by omega
        clear hSS t0 t1 t2 t3
        go_wp2_with fail
        refine wp_region_held_drew (S := fun w' => Below w.heap.size w w') (by kernel_rfl) HB.out.drew (fun hHeld => ?_)
        refine wpAnyH_take (i := 0) (v := ?_) rfl (by kernel_rfl) (by kernel_rfl) (by kernel_rfl) (fun _ _ _ h => h) (Or.inl ⟨by rfl, ?_⟩) (by assumption) ?_
        rotate_left
        · (intro w hSw; obtain ⟨k0, k1, k2, k3⟩ := HSS.out w hSw; go_simp; try (with_reducible rfl))
        try simp only [Act.put, List.getElem_toArray, List.getElem_cons_succ, List.getElem_cons_zero, List.setIfInBounds_toArray, List.set_cons_zero, List.set_cons_succ]
        refine wpAnyH_take (i := 1) (v := ?_) rfl (by kernel_rfl) (by kernel_rfl) (by kernel_rfl) (fun _ _ _ h => h) (Or.inl ⟨by rfl, ?_⟩) (by assumption) ?_
        rotate_left
        · (intro w hSw; obtain ⟨k0, k1, k2, k3⟩ := HSS.out w hSw; go_simp; try (with_reducible rfl))
        try simp only [Act.put, List.getElem_toArray, List.getElem_cons_succ, List.getElem_cons_zero, List.setIfInBounds_toArray, List.set_cons_zero, List.set_cons_succ]
        refine wpAnyH_take (i := 2) (v := ?_) rfl (by kernel_rfl) (by kernel_rfl) (by kernel_rfl) (fun _ _ _ h => h) (Or.inl ⟨by rfl, ?_⟩) (by assumption) ?_
        rotate_left
        · (intro w hSw; obtain ⟨k0, k1, k2, k3⟩ := HSS.out w hSw; go_simp; try (with_reducible rfl))
        try simp only [Act.put, List.getElem_toArray, List.getElem_cons_succ, List.getElem_cons_zero, List.setIfInBounds_toArray, List.set_cons_zero, List.set_cons_succ]
        refine wpAnyH_take (i := 3) (v := ?_) rfl (by kernel_rfl) (by kernel_rfl) (by kernel_rfl) (fun _ _ _ h => h) (Or.inl ⟨by rfl, ?_⟩) (by assumption) ?_
        rotate_left
        · (intro w hSw; obtain ⟨k0, k1, k2, k3⟩ := HSS.out w hSw; go_simp; try (with_reducible rfl))
        try simp only [Act.put, List.getElem_toArray, List.getElem_cons_succ, List.getElem_cons_zero, List.setIfInBounds_toArray, List.set_cons_zero, List.set_cons_succ]
        refine wpAnyH_take (i := 4) (v := ?_) rfl (by kernel_rfl) (by kernel_rfl) (by kernel_rfl) (fun _ _ _ h => h) (Or.inl ⟨by rfl, ?_⟩) (by assumption) ?_
        rotate_left
        · (intro w hSw; obtain ⟨k0, k1, k2, k3⟩ := HSS.out w hSw; go_simp; try (with_reducible rfl))
        try simp only [Act.put, List.getElem_toArray, List.getElem_cons_succ, List.getElem_cons_zero, List.setIfInBounds_toArray, List.set_cons_zero, List.set_cons_succ]
        refine wpAnyH_take (i := 5) (v := ?_) rfl (by kernel_rfl) (by kernel_rfl) (by kernel_rfl) (fun _ _ _ h => h) (Or.inl ⟨by rfl, ?_⟩) (by assumption) ?_
        rotate_left
        · (intro w hSw; obtain ⟨k0, k1, k2, k3⟩ := HSS.out w hSw; go_simp; try (with_reducible rfl))
        try simp only [Act.put, List.getElem_toArray, List.getElem_cons_succ, List.getElem_cons_zero, List.setIfInBounds_toArray, List.set_cons_zero, List.set_cons_succ]
        refine wpAnyH_take (i := 6) (v := ?_) rfl (by kernel_rfl) (by kernel_rfl) (by kernel_rfl) (fun _ _ _ h => h) (Or.inl ⟨by rfl, ?_⟩) (by assumption) ?_
        rotate_left
        · (intro w hSw; obtain ⟨k0, k1, k2, k3⟩ := HSS.out w hSw; go_simp; try (with_reducible rfl))
        try simp only [Act.put, List.getElem_toArray, List.getElem_cons_succ, List.getElem_cons_zero, List.setIfInBounds_toArray, List.set_cons_zero, List.set_cons_succ]
        refine wpAnyH_take (i := 8) (v := ?_) rfl (by kernel_rfl) (by kernel_rfl) (by kernel_rfl) (fun _ _ _ h => h) (Or.inl ⟨by rfl, ?_⟩) (by assumption) ?_
        rotate_left
        · (intro w hSw; obtain ⟨k0, k1, k2, k3⟩ := HSS.out w hSw; go_simp; try (with_reducible rfl))
        try simp only [Act.put, List.getElem_toArray, List.getElem_cons_succ, List.getElem_cons_zero, List.setIfInBounds_toArray, List.set_cons_zero, List.set_cons_succ]
        refine wpAnyH_take (i := 9) (v := ?_) rfl (by kernel_rfl) (by kernel_rfl) (by kernel_rfl) (fun _ _ _ h => h) (Or.inl ⟨by rfl, ?_⟩) (by assumption) ?_
        rotate_left
        · (intro w hSw; obtain ⟨k0, k1, k2, k3⟩ := HSS.out w hSw; go_simp; try (with_reducible rfl))
        try simp only [Act.put, List.getElem_toArray, List.getElem_cons_succ, List.getElem_cons_zero, List.setIfInBounds_toArray, List.set_cons_zero, List.set_cons_succ]
        refine wpAnyH_take (i := 10) (v := ?_) rfl (by kernel_rfl) (by kernel_rfl) (by kernel_rfl) (fun _ _ _ h => h) (Or.inl ⟨by rfl, ?_⟩) (by assumption) ?_
        rotate_left
        · (intro w hSw; obtain ⟨k0, k1, k2, k3⟩ := HSS.out w hSw; go_simp; try (with_reducible rfl))
        try simp only [Act.put, List.getElem_toArray, List.getElem_cons_succ, List.getElem_cons_zero, List.setIfInBounds_toArray, List.set_cons_zero, List.set_cons_succ]
        refine wpAnyH_take (i := 11) (v := ?_) rfl (by kernel_rfl) (by kernel_rfl) (by kernel_rfl) (fun _ _ _ h => h) (Or.inl ⟨by rfl, ?_⟩) (by assumption) ?_
        rotate_left
        · (intro w hSw; obtain ⟨k0, k1, k2, k3⟩ := HSS.out w hSw; go_simp; try (with_reducible rfl))
        try simp only [Act.put, List.getElem_toArray, List.getElem_cons_succ, List.getElem_cons_zero, List.setIfInBounds_toArray, List.set_cons_zero, List.set_cons_succ]
        refine wpAnyH_take (i := 12) (v := ?_) rfl (by kernel_rfl) (by kernel_rfl) (by kernel_rfl) (fun _ _ _ h => h) (Or.inl ⟨by rfl, ?_⟩) (by assumption) ?_
        rotate_left
        · (intro w hSw; obtain ⟨k0, k1, k2, k3⟩ := HSS.out w hSw; go_simp; try (with_reducible rfl))
        try simp only [Act.put, List.getElem_toArray, List.getElem_cons_succ, List.getElem_cons_zero, List.setIfInBounds_toArray, List.set_cons_zero, List.set_cons_succ]
        refine wpAnyH_take (i := 13) (v := ?_) rfl (by kernel_rfl) (by kernel_rfl) (by kernel_rfl) (fun _ _ _ h => h) (Or.inl ⟨by rfl, ?_⟩) (by assumption) ?_
        rotate_left
        · (intro w hSw; obtain ⟨k0, k1, k2, k3⟩ := HSS.out w hSw; go_simp; try (with_reducible rfl))
        try simp only [Act.put, List.getElem_toArray, List.getElem_cons_succ, List.getElem_cons_zero, List.setIfInBounds_toArray, List.set_cons_zero, List.set_cons_succ]
        refine wpAnyH_take (i := 14) (v := ?_) rfl (by kernel_rfl) (by kernel_rfl) (by kernel_rfl) (fun _ _ _ h => h) (Or.inl ⟨by rfl, ?_⟩) (by assumption) ?_
        rotate_left
        · (intro w hSw; obtain ⟨k0, k1, k2, k3⟩ := HSS.out w hSw; go_simp; try (with_reducible rfl))
        try simp only [Act.put, List.getElem_toArray, List.getElem_cons_succ, List.getElem_cons_zero, List.setIfInBounds_toArray, List.set_cons_zero, List.set_cons_succ]
        refine wpAnyH_ready (rs := [7]) (by kernel_rfl) (by simp) ?_
        refine AllReadyH.cons rfl (fun K hK => ?_) ?_
        · go_simp
          have hk0 : (IntKind.u64).wrap (k : Int) = (k : Int) := u64_in _ (by omega)
          try rw [hk0]
          refine (mAdd_two (HT.out.below (Below.refl _ _).drew) hHeld.size (by decide) HOK.out k ⟨f, q, ky, v⟩).mono ?_
          rintro e w3 ⟨rfl, ht3, hb3⟩
          have hB3 := hHeld.trans hb3
          refine hK.out _ _ hB3 (fun hHeld => ?_)
          clear hb3 hB3
          clear hK K
          try simp only [Act.put, List.getElem_toArray, List.getElem_cons_succ, List.getElem_cons_zero, List.setIfInBounds_toArray, List.set_cons_zero, List.set_cons_succ]
          refine wpAnyH_ready (rs := [15]) (by kernel_rfl) (by simp) ?_
          refine AllReadyH.cons rfl (fun K hK => ?_) ?_
          · go_simp
            try rw [hk0]
            refine (mAdd_two ht3.swap hHeld.size (by decide) HOK.out k ⟨f, q, ky, v⟩).mono ?_
            rintro e w4 ⟨rfl, ht4, hb4⟩
            have hB4 := hHeld.trans hb4
            refine hK.out _ _ hB4 (fun hHeld => ?_)
            clear hb4 hB4
            clear hK K
            try simp only [Act.put, List.getElem_toArray, List.getElem_cons_succ, List.getElem_cons_zero, List.setIfInBounds_toArray, List.set_cons_zero, List.set_cons_succ]
            have HT4 := Lib.hid ht4.swap
            rw [← HST.out] at HT4
            generalize (addS 0 S k ⟨f, q, ky, v⟩).2 = c at *
            clear ht3 ht4
            refine wpAnyH_take (i := 16) (v := ?_) rfl (by kernel_rfl) (by kernel_rfl) (by kernel_rfl) (fun _ _ _ h => h) (Or.inl ⟨by rfl, ?_⟩) (by assumption) ?_
            rotate_left
            · (intro w hSw; (try dsimp only at hSw); go_simp; try (with_reducible rfl))
            try simp only [Act.put, List.getElem_toArray, List.getElem_cons_succ, List.getElem_cons_zero, List.setIfInBounds_toArray, List.set_cons_zero, List.set_cons_succ]
            refine wpAnyH_done (by kernel_rfl) ?_ _
            go_wp2_with fail
            go_roundw
            case rel => exact ⟨k + 1, by omega, by go_num, hHeld, HT4.out⟩
            case measure => simp [intOf]; omega
          exact AllReadyH.nil
        exact AllReadyH.nil
      · obtain rfl : k = l.length := by omega
        rw [List.take_length] at HT
        have HOK := Lib.hid (TOk.adds l emptyS 0 (TOk.empty 0))
        generalize addsS 0 emptyS 0 l = S at *
        go_wp2_with fail
        obtain ⟨wv, rfl⟩ : ∃ wv : World, wv = wr := ⟨_, rfl⟩
        go_loopw [12] (fun s12 wr => ∃ k : Nat, k ≤ more.length ∧ s12 = .int .i64 k ∧ Hid (Below w.heap.size w wr) ∧ Hid (Two w.heap.size wr ga gb 0 [1, 2, 3] [] S (addsS 0 S l.length (more.take k)))) (fun s12 _ => more.length - (intOf s12).toNat)
        case atStart => exact ⟨0, Nat.zero_le _, rfl, HB.out, by rw [List.take_zero]; exact HT.out⟩
        case round =>
          clear HB HT
          obtain ⟨k, hk, rfl, HB, HT⟩ := hrel
          by_cases hkl : k < more.length
          · obtain ⟨b, off, rfl, hbl, t0, t1, t2, t3⟩ := rc_at HR2.out hkl
            have hst := addsS_step 0 S l.length more k hkl
            have HOK2 := Lib.hid (TOk.adds (more.take k) S l.length HOK.out)
            generalize more[k] = r at *
            generalize addsS 0 S l.length (more.take k) = T at *
            have HST := Lib.hid hst
            clear hst
            obtain ⟨f, q, ky, v⟩ := r
            dsimp only at t0 t1 t2 t3
            have u0 := (HB.out.cell (p := ⟨b, off + k * 4, none⟩) hbl).trans t0
            have u1 := (HB.out.cell (p := ⟨b, off + k * 4 + 1, none⟩) hbl).trans t1
            have u2 := (HB.out.cell (p := ⟨b, off + k * 4 + 2, none⟩) hbl).trans t2
            have u3 := (HB.out.cell (p := ⟨b, off + k * 4 + 3, none⟩) hbl).trans t3
            have hki : (0 : Int) ≤ (k : Int) ∧ (k : Int) < (more.length : Int) := by omega
            clear t0 t1 t2 t3
            go_wp2_with fail
            refine (mAdd_two HT.out.swap HB.out.size (by decide) HOK2.out ((l.length : Int) + (k : Int)) ⟨f, q, ky, v⟩).mono ?_
            rintro e w3 ⟨rfl, ht3, hb3⟩
            have HT3 := Lib.hid ht3.swap
            rw [← HST.out] at HT3
            have HB3 := Lib.hid (HB.out.trans hb3)
            clear ht3 hb3
            go_wp2_with fail
            go_roundw
            case rel => exact ⟨k + 1, by omega, by go_num, HB3.out, HT3.out⟩
            case measure => simp [intOf]; omega
          · obtain rfl : k = more.length := by omega
            rw [List.take_length] at HT
            have HOK2 := Lib.hid (TOk.adds more S l.length HOK.out)
            have hlow := addsS_low (how := 0) (m := (l.length : Int)) more S l.length (Int.le_refl _)
            generalize addsS 0 S l.length more = T at *
            have HLOW := Lib.hid (fun seq (h : seq < (l.length : Int)) => getS_low (how := 0) hlow.1.symm hlow.2.symm key seq h)
            clear hlow
            go_wp2_with fail
            obtain ⟨wu, rfl⟩ : ∃ wu : World, wu = wr := ⟨_, rfl⟩
            go_loopw [13] (fun s13 wr => ∃ k : Nat, k ≤ l.length ∧ s13 = .int .i64 k ∧ Hid (Below w.heap.size w wr) ∧ Hid (Two w.heap.size wr ga gb 0 [1, 2, 3] [] S T)) (fun s13 _ => l.length - (intOf s13).toNat)
            case atStart => exact ⟨0, Nat.zero_le _, rfl, HB.out, HT.out⟩
            case round =>
              clear HB HT
              obtain ⟨k, hk, rfl, HB, HT⟩ := hrel
              by_cases hkl : k < l.length
              · have hG1 := mGet_two HT.out HOK.out key k
                have hG2 := fun w' (h : Below wr.heap.size wr w') => mGet_two (HT.out.below h).swap HOK2.out key k
                rw [← HLOW.out k (by omega)] at hG2
                generalize getS 0 S key k = r at *
                obtain ⟨v, kd, is⟩ := r
                unfold tripV at hG1 hG2
                dsimp only at hG1 hG2
                have HG1 := Lib.hid hG1
                have HG2 := Lib.hid hG2
                clear hG1 hG2
                go_wp2_with fail
                refine HG1.out.mono ?_
                rintro e w3 ⟨rfl, hb3⟩
                have HB3 := Lib.hid (HB.out.trans (hb3.mono HB.out.size))
                have HT3 := Lib.hid (HT.out.below hb3)
                have HC3 := Lib.hid hb3
                clear hb3
                go_wp2_with fail
                refine (HG2.out _ HC3.out).mono ?_
                rintro e w4 ⟨rfl, hb4⟩
                have HB4 := Lib.hid (HB3.out.trans (hb4.mono HB3.out.size))
                have HT4 := Lib.hid (HT3.out.below hb4)
                clear hb4
                go_wp2_with fail
                go_roundw
                case rel => exact ⟨k + 1, by omega, by go_num, HB4.out, HT4.out⟩
                case measure => simp [intOf]; omega
              · obtain rfl : k = l.length := by omega
                go_wp2_with fail
                refine (lives07_any _).mono ?_
                rintro e w3 ⟨rfl, hb3⟩
                go_wp2_with fail
                go_ret
                exact ⟨rfl, HB.out.trans (hb3.mono HB.out.size)⟩
end Go.Proofs.Ytodnojpolkdlmaa
