/-
  The law MemtableMap, walked.
-/
import Derived.Test.YtodnojpolkdlmaaMapA
namespace Go.Proofs.Ytodnojpolkdlmaa
set_option linter.unusedSimpArgs false
set_option linter.unusedVariables false
open Go.RowKit Go.IntWalk
attribute [local go_sem ↓] Go.wp_at_zero Go.wp_at_succ

theorem info_record : (Try.prog.info? 33).map (fun i => (i.zero, i.size, i.bytes)) = some (some (.agg #[.int .u32 0, .int .i64 0, .string ⟨#[]⟩, .string ⟨#[]⟩]), 4, 48) := by kernel_rfl
set_option maxHeartbeats 4000000 in
set_option maxRecDepth 100000 in
theorem memMap_bad (how : Int) (v1 v2 : Value) (w : World) (h0 : how ≠ 0) (h1 : how ≠ 1) :
    Calls Try.prog 4 #[.int .i64 how, v1, v2] w fun e w' => e = .returned (.bool true) ∧ Below w.heap.size w w' := by
  have HN := Lib.hid (fun hv w => mNew_bad how hv w h0 h1)
  have e0 : (how != 0) = true := by simpa using h0
  have e1 : (how != 1) = true := by simpa using h1
  have hb0 : Below w.heap.size w (w.alloc (.cells #[.int .u8 2, .int .u8 1] 5)) := (Below.refl _ w).alloc (Nat.le_refl _) _
  have HB0 := Lib.hid hb0
  clear h0 h1 hb0
  go_enter Try.func4, Try.ntmps4
  go_wp2_with fail
  refine (HN.out _ _).mono ?_
  rintro e w1 ⟨rfl, rfl⟩
  go_wp2_with fail
  refine (lives07_any _).mono ?_
  rintro e w3 ⟨rfl, hb3⟩
  go_wp2_with fail
  go_ret
  exact ⟨ret_bool rfl, HB0.out.trans (hb3.mono HB0.out.size)⟩
theorem rcsC_snoc (D : List Rc) (r : Rc) : rcsC (D ++ [r]) = rcsC D ++ rcC r := by unfold rcsC; rw [List.flatMap_append]; simp
set_option maxHeartbeats 4000000 in
set_option maxRecDepth 100000 in
theorem memMap_any (how : Int) (A A2 : Option Addr) (cap cap2 : Nat) (l : List Rc) (keys : List ByteArray) (w : World) (hh : how = 0 ∨ how = 1) (hl : l.length * 48 ≤ 140737488351232) (hm : keys.length * 16 ≤ 140737488351232) (hr : Rd w w.heap.size A (rcsC l)) (hr2 : Rd w w.heap.size A2 (strC keys)) :
    Calls Try.prog 4 #[.int .i64 how, .slice A l.length cap, .slice A2 keys.length cap2] w fun e w' => e = .returned (.bool true) ∧ Below w.heap.size w w' := by
  obtain ⟨ir, hi, hz0, hz1, hz2⟩ := info_parts info_record
  have hb0 : Below w.heap.size w (w.alloc (.cells #[.int .u8 2, .int .u8 1] 5)) := (Below.refl _ w).alloc (Nat.le_refl _) _
  have hN1 := mNew_tab how (some ⟨w.heap.size, 0, none⟩) 2 [2, 1] (w.alloc (.cells #[.int .u8 2, .int .u8 1] 5)) hh (by decide) (by
    have := Rd.new w #[.int .u8 2, .int .u8 1] 5
    have e : (#[.int .u8 2, .int .u8 1] : Array Value).toList = ([2, 1] : List UInt8).map byteV := rfl
    rw [World.size_alloc]; rw [e] at this; exact this) (fun h => by cases h) (fun a h => by injection h with h; rw [← h])
  have HN1 := Lib.hid hN1
  have HB0 := Lib.hid hb0
  have HR := Lib.hid hr
  have HR2 := Lib.hid hr2
  clear hN1 hb0 hr hr2 hh
  go_enter Try.func4, Try.ntmps4
  go_wp2_with fail
  refine HN1.out.mono ?_
  rintro e w1 ⟨g, rfl, hb1, hn1⟩
  have HO1 : Hid (One w.heap.size w1 g how [2, 1] emptyS []) := by
    obtain ⟨F, H, h1, h2, h3, h4⟩ := hn1.one
    exact ⟨F, H, h1, fun k hk => ⟨by have := (h2 k hk).1; simp at this; omega, (h2 k hk).2⟩, h3, h4⟩
  have HB1 := Lib.hid (HB0.out.trans (hb1.mono (by simp)))
  clear hb1 hn1 HN1 HB0
  go_wp2_with fail
  have HB2 := Lib.hid (HB1.out.alloc HB1.out.size (.cells #[] 33))
  have HO2 := Lib.hid (HO1.out.start #[] 33)
  have HD2 := Lib.hid ((Blk.new w1 33 #[]).own (base := w.heap.size) (n := 0) (cap := 0) (size := 4) (xs := []) HB1.out.size (Nat.le_refl _) (by unfold maxLen; omega) rfl rfl)
  clear HO1 HB1
  go_wp2_with fail
  go_loopw [9, 10] (fun s9 s10 wr => ∃ (k : Nat) (S : TS) (D : List Rc), k ≤ l.length ∧ k ≤ 8192 ∧ s10 = .int .i64 k ∧ D.length ≤ k ∧ Hid (Below w.heap.size w wr) ∧ Hid (Own wr w.heap.size 33 4 s9 D.length (rcsC D)) ∧ Hid (One w.heap.size wr g how [2, 1] S s9.ownBlock.toList) ∧ Hid (Kept how ((k : Int) + 1) S D)) (fun _ s10 _ => l.length - (intOf s10).toNat)
  case atStart => exact ⟨0, emptyS, [], Nat.zero_le _, Nat.zero_le _, rfl, Nat.le_refl _, HB2.out, HD2.out, HO2.out, Kept.empty how⟩
  case round =>
    clear HB2 HO2 HD2
    obtain ⟨k, S, D, hk, hk8, rfl, hDk, HB, HD, HO, HK⟩ := hrel
    obtain ⟨A3, c3, rfl, hc3, hc4⟩ := HD.out.slice_
    by_cases hkl : k < l.length ∧ k < 8192
    · obtain ⟨hkl, hk9⟩ := hkl
      obtain ⟨b, off, rfl, hbl, t0, t1, t2, t3⟩ := rc_at HR.out hkl
      generalize l[k] = r at *
      obtain ⟨f, q, ky, v⟩ := r
      dsimp only at t0 t1 t2 t3
      have u0 := (HB.out.cell (p := ⟨b, off + k * 4, none⟩) hbl).trans t0
      have u1 := (HB.out.cell (p := ⟨b, off + k * 4 + 1, none⟩) hbl).trans t1
      have u2 := (HB.out.cell (p := ⟨b, off + k * 4 + 2, none⟩) hbl).trans t2
      have u3 := (HB.out.cell (p := ⟨b, off + k * 4 + 3, none⟩) hbl).trans t3
      have hki : (0 : Int) ≤ (k : Int) ∧ (k : Int) < (l.length : Int) := by omega
      have HAD := Lib.hid (mAdd_one HO.out HB.out.size (by decide) HK.out.ok ((k : Int) + 1) ⟨f, q, ky, v⟩)
      go_wp2_with fail
      refine HAD.out.mono ?_
      rintro e w3 ⟨rfl, ho3, hb3, hx3⟩
      have HD3 := Lib.hid (HD.out.of_block fun j hj => hx3 j (by rw [hj]; simp))
      have HO3 := Lib.hid ho3
      have HB3 := Lib.hid (HB.out.trans hb3)
      have v0 := (HB3.out.cell (p := ⟨b, off + k * 4, none⟩) hbl).trans t0
      have v1 := (HB3.out.cell (p := ⟨b, off + k * 4 + 1, none⟩) hbl).trans t1
      have v2 := (HB3.out.cell (p := ⟨b, off + k * 4 + 2, none⟩) hbl).trans t2
      have v3 := (HB3.out.cell (p := ⟨b, off + k * 4 + 3, none⟩) hbl).trans t3
      clear ho3 hb3 hx3 HAD u0 u1 u2 u3 t0 t1 t2 t3 HO HD HB
      by_cases h0 : (addS how S ((k : Int) + 1) ⟨f, q, ky, v⟩).2 = 0
      · have HK3 := Lib.hid (HK.out.yes (by omega) h0)
        rw [h0]
        generalize (addS how S ((k : Int) + 1) ⟨f, q, ky, v⟩).1 = S' at *
        clear HK h0
        have HD4 := Lib.hid (HD3.out.alloc (.cells #[.int .u32 f, .int .i64 q, .string ky, .string v] 33))
        have HB4 := Lib.hid (HB3.out.alloc HB3.out.size (.cells #[.int .u32 f, .int .i64 q, .string ky, .string v] 33))
        have hz4 : w.heap.size ≤ (w3.alloc (.cells #[.int .u32 f, .int .i64 q, .string ky, .string v] 33)).heap.size := HB4.out.size
        have HO4 : Hid (One w.heap.size (w3.alloc (.cells #[.int .u32 f, .int .i64 q, .string ky, .string v] 33)) g how [2, 1] S' (Value.slice A3 D.length c3).ownBlock.toList) := HO3.out.below ((Below.refl _ _).alloc (Nat.le_refl _) _)
        have HN4 : Hid (Rd (w3.alloc (.cells #[.int .u32 f, .int .i64 q, .string ky, .string v] 33)) (w3.heap.size + 1) (some ⟨w3.heap.size, 0, none⟩) (rcC ⟨f, q, ky, v⟩)) := Rd.new w3 #[.int .u32 f, .int .i64 q, .string ky, .string v] 33
        go_wp2_with (at_builtin; go_loud (refine wpList_append _ rfl _ _ 22 22 rfl w.heap.size 33 ir _ 4 48 Try.underlying22 hi hz0 hz1 hz2 rfl (by decide) _ D.length _ rfl HD4.out _ 1 _ rfl (Src.slice _ Try.underlying22 rfl HN4.out) ?c1 ?c2 ?c3 ?c4 ?_; (case c1 => simp [rcC, Value.oneCell']); (case c2 => (unfold maxLen; omega)); (case c3 => omega); (case c4 => exact hz4); intro v5 w5 hO5 hG5 hl5; have HD5 := Lib.hid hO5; have HG5 := Lib.hid hG5; have HL5 := Lib.hid hl5; clear hO5 hG5 hl5))
        go_roundw
        case rel => exact ⟨k + 1, S', D ++ [⟨f, q, ky, v⟩], by omega, by omega, by go_num, by simp; omega, HB4.out.grown HG5.out HB4.out.size (fun j hj => (HD4.out.lt j hj).1), by rw [rcsC_snoc, List.length_append]; exact HD5.out, HO4.out.move HG5.out HL5.out (fun j hj => (HD5.out.lt j hj).2), by rw [show (((k + 1 : Nat) : Int) + 1) = (k : Int) + 1 + 1 by omega]; exact HK3.out⟩
        case measure => simp [intOf]; omega
      · have HK3 := Lib.hid (HK.out.no h0)
        have hne : ((addS how S ((k : Int) + 1) ⟨f, q, ky, v⟩).2 == 0) = false := by simpa using h0
        generalize (addS how S ((k : Int) + 1) ⟨f, q, ky, v⟩).2 = cc at *
        generalize (addS how S ((k : Int) + 1) ⟨f, q, ky, v⟩).1 = S' at *
        clear HK h0
        go_wp2_with fail
        go_roundw
        case rel => exact ⟨k + 1, S', D, by omega, by omega, by go_num, by omega, HB3.out, HD3.out, HO3.out, by rw [show (((k + 1 : Nat) : Int) + 1) = (k : Int) + 1 + 1 by omega]; exact HK3.out⟩
        case measure => simp [intOf]; omega
    · have hD8 : D.length ≤ 8192 := by omega
      have hor : l.length ≤ k ∨ (k < l.length ∧ 8192 ≤ k) := by omega
      clear hkl
      rcases hor with hor | hor
      ·
        have HRD := Lib.hid HD.out.rd'
        clear HD
        go_wp2_with fail
        obtain ⟨wv, rfl⟩ : ∃ wv : World, wv = wr := ⟨_, rfl⟩
        go_loopw [11] (fun s11 wr => ∃ k2 : Nat, k2 ≤ keys.length ∧ s11 = .int .i64 k2 ∧ Hid (Below wv.heap.size wv wr)) (fun s11 _ => keys.length - (intOf s11).toNat)
        case atStart => exact ⟨0, Nat.zero_le _, rfl, Below.refl _ _⟩
        case round =>
          obtain ⟨k2, hk2, rfl, HC⟩ := hrel
          by_cases hkk2 : k2 < keys.length
          · obtain ⟨kb, kof, rfl, hkb, tk⟩ := str_at HR2.out hkk2
            have hki2 : (0 : Int) ≤ (k2 : Int) ∧ (k2 : Int) < (keys.length : Int) := by omega
            have hag := HK.out.ag keys[k2]
            generalize keys[k2] = key at *
            have HAG := Lib.hid hag
            have HKC := Lib.hid (fun w' (h : Below wv.heap.size wv w') => ((HB.out.trans (h.mono HB.out.size)).cell (p := ⟨kb, kof + k2, none⟩) hkb).trans tk)
            clear hag tk
            go_wp2_with fail
            obtain ⟨wu, rfl⟩ : ∃ wu : World, wu = wr := ⟨_, rfl⟩
            go_loopw [12, 13, 14] (fun s12 s13 s14 wr => ∃ j : Nat, j ≤ D.length ∧ s14 = .int .i64 j ∧ s12 = .string (mapM how key (D.take j)).v ∧ s13 = .bool (mapM how key (D.take j)).there ∧ Hid (Below wv.heap.size wv wr)) (fun _ _ s14 _ => D.length - (intOf s14).toNat)
            case atStart => exact ⟨0, Nat.zero_le _, rfl, rfl, rfl, HC.out⟩
            case round =>
              clear HC
              obtain ⟨j, hj, rfl, rfl, rfl, HC⟩ := hrel
              by_cases hjD : j < D.length
              · obtain ⟨db, dof, rfl, hdb, t0, t1, t2, t3⟩ := rc_at HRD.out hjD
                have HST := Lib.hid (mapM_step how key D j hjD)
                have hji : (0 : Int) ≤ (j : Int) ∧ (j : Int) < (D.length : Int) := by omega
                generalize D[j] = r at *
                generalize mapM how key (D.take j) = m at *
                obtain ⟨f, q, ky, v⟩ := r
                obtain ⟨mv, mt⟩ := m
                dsimp only at t0 t1 t2 t3 ⊢
                have u0 := (HC.out.cell (p := ⟨db, dof + j * 4, none⟩) hdb).trans t0
                have u1 := (HC.out.cell (p := ⟨db, dof + j * 4 + 1, none⟩) hdb).trans t1
                have u2 := (HC.out.cell (p := ⟨db, dof + j * 4 + 2, none⟩) hdb).trans t2
                have u3 := (HC.out.cell (p := ⟨db, dof + j * 4 + 3, none⟩) hdb).trans t3
                have HBX := Lib.hid (HC.out.alloc HC.out.size (.cells #[.int .u32 f, .int .i64 q, .string ky, .string v] 33))
                have x1 : (wr.alloc (.cells #[.int .u32 f, .int .i64 q, .string ky, .string v] 33)).cell? ⟨wr.heap.size, 1, none⟩ = some (.int .i64 q) := (Blk.new wr _ _).cell 1
                have x2 : (wr.alloc (.cells #[.int .u32 f, .int .i64 q, .string ky, .string v] 33)).cell? ⟨wr.heap.size, 2, none⟩ = some (.string ky) := (Blk.new wr _ _).cell 2
                have x3 : (wr.alloc (.cells #[.int .u32 f, .int .i64 q, .string ky, .string v] 33)).cell? ⟨wr.heap.size, 3, none⟩ = some (.string v) := (Blk.new wr _ _).cell 3
                have kc := HKC.out _ HBX.out
                clear t0 t1 t2 t3
                by_cases h1 : q = 1
                ·
                  subst h1
                  have heq := eqB ky key
                  by_cases hkk : ky = key
                  · have hb : (ky.toList == key.toList) = true := heq.2 hkk
                    have HSM : Hid (stepM how key ⟨mv, mt⟩ ⟨f, 1, ky, v⟩ = ⟨v, true⟩) := by unfold stepM; rw [if_pos rfl, if_pos hkk]; rfl
                    clear heq hkk
                    go_wp2_with fail
                    go_quiet (fail)
                    go_wp2_with fail
                    go_roundw
                    case rel => exact ⟨j + 1, by omega, by go_num, by rw [HST.out, HSM.out], by rw [HST.out, HSM.out], below_drewN HBX.out _⟩
                    case measure => simp [intOf]; omega
                  · have hb : (ky.toList == key.toList) = false := by
                      cases hx : (ky.toList == key.toList) with
                      | false => rfl
                      | true => exact absurd (heq.1 hx) hkk
                    have HSM : Hid (stepM how key ⟨mv, mt⟩ ⟨f, 1, ky, v⟩ = ⟨mv, mt⟩) := by unfold stepM; rw [if_pos rfl, if_neg hkk]; rfl
                    clear heq hkk
                    go_wp2_with fail
                    go_quiet (fail)
                    go_wp2_with fail
                    go_roundw
                    case rel => exact ⟨j + 1, by omega, by go_num, by rw [HST.out, HSM.out], by rw [HST.out, HSM.out], below_drewN HBX.out _⟩
                    case measure => simp [intOf]; omega
                by_cases h0 : q = 0
                ·
                  subst h0
                  have heq := eqB ky key
                  rcases mt with _ | _
                  · have HSM : Hid (stepM how key ⟨mv, false⟩ ⟨f, 0, ky, v⟩ = ⟨mv, false⟩) := by unfold stepM; rw [if_neg (show ¬ (0 : Int) = 1 by decide), if_pos rfl]; rfl
                    clear heq
                    go_wp2_with fail
                    go_quiet (fail)
                    go_wp2_with fail
                    go_roundw
                    case rel => exact ⟨j + 1, by omega, by go_num, by rw [HST.out, HSM.out], by rw [HST.out, HSM.out], below_drewN HBX.out _⟩
                    case measure => simp [intOf]; omega
                  · by_cases hkk : ky = key
                    · have hb : (ky.toList == key.toList) = true := heq.2 hkk
                      have HSM : Hid (stepM how key ⟨mv, true⟩ ⟨f, 0, ky, v⟩ = ⟨mv, false⟩) := by unfold stepM; rw [if_neg (show ¬ (0 : Int) = 1 by decide), if_pos rfl]; dsimp only; rw [decide_eq_false (by simpa using hkk)]; rfl
                      clear heq hkk
                      go_wp2_with fail
                      go_quiet (fail)
                      go_wp2_with fail
                      go_roundw
                      case rel => exact ⟨j + 1, by omega, by go_num, by rw [HST.out, HSM.out], by rw [HST.out, HSM.out], below_drewN HBX.out _⟩
                      case measure => simp [intOf]; omega
                    · have hb : (ky.toList == key.toList) = false := by
                        cases hx : (ky.toList == key.toList) with
                        | false => rfl
                        | true => exact absurd (heq.1 hx) hkk
                      have HSM : Hid (stepM how key ⟨mv, true⟩ ⟨f, 0, ky, v⟩ = ⟨mv, true⟩) := by unfold stepM; rw [if_neg (show ¬ (0 : Int) = 1 by decide), if_pos rfl]; dsimp only; rw [decide_eq_true hkk]; rfl
                      clear heq hkk
                      go_wp2_with fail
                      go_quiet (fail)
                      go_wp2_with fail
                      go_roundw
                      case rel => exact ⟨j + 1, by omega, by go_num, by rw [HST.out, HSM.out], by rw [HST.out, HSM.out], below_drewN HBX.out _⟩
                      case measure => simp [intOf]; omega
                by_cases h2 : q = 2
                ·
                  subst h2
                  have hsm : ∀ mt, stepM how key ⟨mv, mt⟩ ⟨f, 2, ky, v⟩ = ⟨mv, mt && !(decide (cmpH how ky key ≤ 0 ∧ cmpH how key v < 0))⟩ := fun mt => by unfold stepM; rw [if_neg (show ¬ (2 : Int) = 1 by decide), if_neg (show ¬ (2 : Int) = 0 by decide), if_pos rfl]
                  have hq1 := fun w => rCompare_any how ky key w
                  have hq2 := fun w => rCompare_any how key v w
                  generalize cmpH how ky key = c1 at *
                  generalize cmpH how key v = c2 at *
                  have HC1 := Lib.hid hq1
                  have HC2 := Lib.hid hq2
                  clear hq1 hq2
                  rcases mt with _ | _
                  · have HSM : Hid (stepM how key ⟨mv, false⟩ ⟨f, 2, ky, v⟩ = ⟨mv, false⟩) := by rw [hsm]; rfl
                    clear hsm
                    go_wp2_with fail
                    go_quiet (fail)
                    go_wp2_with fail
                    go_roundw
                    case rel => exact ⟨j + 1, by omega, by go_num, by rw [HST.out, HSM.out], by rw [HST.out, HSM.out], below_drewN HBX.out _⟩
                    case measure => simp [intOf]; omega
                  · by_cases d1 : c1 ≤ 0
                    · have e1 : decide (c1 ≤ 0) = true := decide_eq_true d1
                      by_cases d2 : c2 < 0
                      · have e2 : decide (c2 < 0) = true := decide_eq_true d2
                        have HSM : Hid (stepM how key ⟨mv, true⟩ ⟨f, 2, ky, v⟩ = ⟨mv, false⟩) := by rw [hsm, decide_eq_true ⟨d1, d2⟩]; rfl
                        clear hsm d1 d2
                        go_wp2_with fail
                        go_quiet ((go_at_call 11; first | (with_reducible exact Calls.quiet_of_same (HC1.out _)) | (with_reducible exact Calls.quiet_of_same (HC2.out _))))
                        go_wp2_with fail
                        go_roundw
                        case rel => exact ⟨j + 1, by omega, by go_num, by rw [HST.out, HSM.out], by rw [HST.out, HSM.out], below_drewN HBX.out _⟩
                        case measure => simp [intOf]; omega
                      · have e2 : decide (c2 < 0) = false := decide_eq_false d2
                        have HSM : Hid (stepM how key ⟨mv, true⟩ ⟨f, 2, ky, v⟩ = ⟨mv, true⟩) := by rw [hsm, decide_eq_false (fun h => d2 h.2)]; rfl
                        clear hsm d1 d2
                        go_wp2_with fail
                        go_quiet ((go_at_call 11; first | (with_reducible exact Calls.quiet_of_same (HC1.out _)) | (with_reducible exact Calls.quiet_of_same (HC2.out _))))
                        go_wp2_with fail
                        go_roundw
                        case rel => exact ⟨j + 1, by omega, by go_num, by rw [HST.out, HSM.out], by rw [HST.out, HSM.out], below_drewN HBX.out _⟩
                        case measure => simp [intOf]; omega
                    · have e1 : decide (c1 ≤ 0) = false := decide_eq_false d1
                      have HSM : Hid (stepM how key ⟨mv, true⟩ ⟨f, 2, ky, v⟩ = ⟨mv, true⟩) := by rw [hsm, decide_eq_false (fun h => d1 h.1)]; rfl
                      clear hsm d1
                      go_wp2_with fail
                      go_quiet ((go_at_call 11; first | (with_reducible exact Calls.quiet_of_same (HC1.out _)) | (with_reducible exact Calls.quiet_of_same (HC2.out _))))
                      go_wp2_with fail
                      go_roundw
                      case rel => exact ⟨j + 1, by omega, by go_num, by rw [HST.out, HSM.out], by rw [HST.out, HSM.out], below_drewN HBX.out _⟩
                      case measure => simp [intOf]; omega
                ·
                  have HSM : Hid (stepM how key ⟨mv, mt⟩ ⟨f, q, ky, v⟩ = ⟨mv, mt⟩) := by unfold stepM; rw [if_neg h1, if_neg h0, if_neg h2]; rfl
                  have e0 : (q == 0) = false := by simpa using h0
                  have e1 : (q == 1) = false := by simpa using h1
                  have e2 : (q == 2) = false := by simpa using h2
                  clear h0 h1 h2
                  go_wp2_with fail
                  go_roundw
                  case rel => exact ⟨j + 1, by omega, by go_num, by rw [HST.out, HSM.out], by rw [HST.out, HSM.out], HBX.out⟩
                  case measure => simp [intOf]; omega
              · obtain rfl : j = D.length := by omega
                rw [List.take_length]
                have hag := HAG.out
                generalize mapM how key D = m at *
                obtain ⟨mv, mt⟩ := m
                have kc := HKC.out _ HC.out
                have hG := mGet_one (HO.out.below HC.out) HK.out.ok key 72057594037927935
                generalize getS how S key 72057594037927935 = r at *
                obtain ⟨gv, gk, gi⟩ := r
                unfold tripV at hG
                dsimp only at hG hag ⊢
                obtain ⟨ha1, ha2⟩ := hag
                dsimp only at ha1 ha2
                have HG := Lib.hid hG
                clear hG HAG
                go_wp2_with fail
                refine HG.out.mono ?_
                rintro e w5 ⟨rfl, hb5⟩
                have HB5 := Lib.hid (HC.out.trans (hb5.mono HC.out.size))
                clear hb5 HG
                rcases mt with _ | _
                · rcases gi with _ | _
                  · clear ha1 ha2
                    go_wp2_with fail
                    go_roundw
                    case rel => exact ⟨k2 + 1, by omega, by go_num, HB5.out⟩
                    case measure => simp [intOf]; omega
                  · have hgk : (gk == 1) = false := by
                      rw [beq_eq_false_iff_ne]; intro e; have := ha1.2 ⟨rfl, e⟩; cases this
                    clear ha1 ha2
                    go_wp2_with fail
                    go_roundw
                    case rel => exact ⟨k2 + 1, by omega, by go_num, HB5.out⟩
                    case measure => simp [intOf]; omega
                · obtain ⟨rfl, rfl⟩ := ha1.1 rfl
                  have hv := ha2 rfl
                  subst hv
                  clear ha1 ha2
                  go_wp2_with fail
                  go_roundw
                  case rel => exact ⟨k2 + 1, by omega, by go_num, HB5.out⟩
                  case measure => simp [intOf]; omega
          · obtain rfl : k2 = keys.length := by omega
            go_wp2_with fail
            refine (lives07_any _).mono ?_
            rintro e w3 ⟨rfl, hb3⟩
            go_wp2_with fail
            go_ret
            exact ⟨rfl, HB.out.trans ((HC.out.trans (hb3.mono HC.out.size)).mono HB.out.size)⟩
      ·
        have HRD := Lib.hid HD.out.rd'
        clear HD
        go_wp2_with fail
        obtain ⟨wv, rfl⟩ : ∃ wv : World, wv = wr := ⟨_, rfl⟩
        go_loopw [11] (fun s11 wr => ∃ k2 : Nat, k2 ≤ keys.length ∧ s11 = .int .i64 k2 ∧ Hid (Below wv.heap.size wv wr)) (fun s11 _ => keys.length - (intOf s11).toNat)
        case atStart => exact ⟨0, Nat.zero_le _, rfl, Below.refl _ _⟩
        case round =>
          obtain ⟨k2, hk2, rfl, HC⟩ := hrel
          by_cases hkk2 : k2 < keys.length
          · obtain ⟨kb, kof, rfl, hkb, tk⟩ := str_at HR2.out hkk2
            have hki2 : (0 : Int) ≤ (k2 : Int) ∧ (k2 : Int) < (keys.length : Int) := by omega
            have hag := HK.out.ag keys[k2]
            generalize keys[k2] = key at *
            have HAG := Lib.hid hag
            have HKC := Lib.hid (fun w' (h : Below wv.heap.size wv w') => ((HB.out.trans (h.mono HB.out.size)).cell (p := ⟨kb, kof + k2, none⟩) hkb).trans tk)
            clear hag tk
            go_wp2_with fail
            obtain ⟨wu, rfl⟩ : ∃ wu : World, wu = wr := ⟨_, rfl⟩
            go_loopw [12, 13, 14] (fun s12 s13 s14 wr => ∃ j : Nat, j ≤ D.length ∧ s14 = .int .i64 j ∧ s12 = .string (mapM how key (D.take j)).v ∧ s13 = .bool (mapM how key (D.take j)).there ∧ Hid (Below wv.heap.size wv wr)) (fun _ _ s14 _ => D.length - (intOf s14).toNat)
            case atStart => exact ⟨0, Nat.zero_le _, rfl, rfl, rfl, HC.out⟩
            case round =>
              clear HC
              obtain ⟨j, hj, rfl, rfl, rfl, HC⟩ := hrel
              by_cases hjD : j < D.length
              · obtain ⟨db, dof, rfl, hdb, t0, t1, t2, t3⟩ := rc_at HRD.out hjD
                have HST := Lib.hid (mapM_step how key D j hjD)
                have hji : (0 : Int) ≤ (j : Int) ∧ (j : Int) < (D.length : Int) := by omega
                generalize D[j] = r at *
                generalize mapM how key (D.take j) = m at *
                obtain ⟨f, q, ky, v⟩ := r
                obtain ⟨mv, mt⟩ := m
                dsimp only at t0 t1 t2 t3 ⊢
                have u0 := (HC.out.cell (p := ⟨db, dof + j * 4, none⟩) hdb).trans t0
                have u1 := (HC.out.cell (p := ⟨db, dof + j * 4 + 1, none⟩) hdb).trans t1
                have u2 := (HC.out.cell (p := ⟨db, dof + j * 4 + 2, none⟩) hdb).trans t2
                have u3 := (HC.out.cell (p := ⟨db, dof + j * 4 + 3, none⟩) hdb).trans t3
                have HBX := Lib.hid (HC.out.alloc HC.out.size (.cells #[.int .u32 f, .int .i64 q, .string ky, .string v] 33))
                have x1 : (wr.alloc (.cells #[.int .u32 f, .int .i64 q, .string ky, .string v] 33)).cell? ⟨wr.heap.size, 1, none⟩ = some (.int .i64 q) := (Blk.new wr _ _).cell 1
                have x2 : (wr.alloc (.cells #[.int .u32 f, .int .i64 q, .string ky, .string v] 33)).cell? ⟨wr.heap.size, 2, none⟩ = some (.string ky) := (Blk.new wr _ _).cell 2
                have x3 : (wr.alloc (.cells #[.int .u32 f, .int .i64 q, .string ky, .string v] 33)).cell? ⟨wr.heap.size, 3, none⟩ = some (.string v) := (Blk.new wr _ _).cell 3
                have kc := HKC.out _ HBX.out
                clear t0 t1 t2 t3
                by_cases h1 : q = 1
                ·
                  subst h1
                  have heq := eqB ky key
                  by_cases hkk : ky = key
                  · have hb : (ky.toList == key.toList) = true := heq.2 hkk
                    have HSM : Hid (stepM how key ⟨mv, mt⟩ ⟨f, 1, ky, v⟩ = ⟨v, true⟩) := by unfold stepM; rw [if_pos rfl, if_pos hkk]; rfl
                    clear heq hkk
                    go_wp2_with fail
                    go_quiet (fail)
                    go_wp2_with fail
                    go_roundw
                    case rel => exact ⟨j + 1, by omega, by go_num, by rw [HST.out, HSM.out], by rw [HST.out, HSM.out], below_drewN HBX.out _⟩
                    case measure => simp [intOf]; omega
                  · have hb : (ky.toList == key.toList) = false := by
                      cases hx : (ky.toList == key.toList) with
                      | false => rfl
                      | true => exact absurd (heq.1 hx) hkk
                    have HSM : Hid (stepM how key ⟨mv, mt⟩ ⟨f, 1, ky, v⟩ = ⟨mv, mt⟩) := by unfold stepM; rw [if_pos rfl, if_neg hkk]; rfl
                    clear heq hkk
                    go_wp2_with fail
                    go_quiet (fail)
                    go_wp2_with fail
                    go_roundw
                    case rel => exact ⟨j + 1, by omega, by go_num, by rw [HST.out, HSM.out], by rw [HST.out, HSM.out], below_drewN HBX.out _⟩
                    case measure => simp [intOf]; omega
                by_cases h0 : q = 0
                ·
                  subst h0
                  have heq := eqB ky key
                  rcases mt with _ | _
                  · have HSM : Hid (stepM how key ⟨mv, false⟩ ⟨f, 0, ky, v⟩ = ⟨mv, false⟩) := by unfold stepM; rw [if_neg (show ¬ (0 : Int) = 1 by decide), if_pos rfl]; rfl
                    clear heq
                    go_wp2_with fail
                    go_quiet (fail)
                    go_wp2_with fail
                    go_roundw
                    case rel => exact ⟨j + 1, by omega, by go_num, by rw [HST.out, HSM.out], by rw [HST.out, HSM.out], below_drewN HBX.out _⟩
                    case measure => simp [intOf]; omega
                  · by_cases hkk : ky = key
                    · have hb : (ky.toList == key.toList) = true := heq.2 hkk
                      have HSM : Hid (stepM how key ⟨mv, true⟩ ⟨f, 0, ky, v⟩ = ⟨mv, false⟩) := by unfold stepM; rw [if_neg (show ¬ (0 : Int) = 1 by decide), if_pos rfl]; dsimp only; rw [decide_eq_false (by simpa using hkk)]; rfl
                      clear heq hkk
                      go_wp2_with fail
                      go_quiet (fail)
                      go_wp2_with fail
                      go_roundw
                      case rel => exact ⟨j + 1, by omega, by go_num, by rw [HST.out, HSM.out], by rw [HST.out, HSM.out], below_drewN HBX.out _⟩
                      case measure => simp [intOf]; omega
                    · have hb : (ky.toList == key.toList) = false := by
                        cases hx : (ky.toList == key.toList) with
                        | false => rfl
                        | true => exact absurd (heq.1 hx) hkk
                      have HSM : Hid (stepM how key ⟨mv, true⟩ ⟨f, 0, ky, v⟩ = ⟨mv, true⟩) := by unfold stepM; rw [if_neg (show ¬ (0 : Int) = 1 by decide), if_pos rfl]; dsimp only; rw [decide_eq_true hkk]; rfl
                      clear heq hkk
                      go_wp2_with fail
                      go_quiet (fail)
                      go_wp2_with fail
                      go_roundw
                      case rel => exact ⟨j + 1, by omega, by go_num, by rw [HST.out, HSM.out], by rw [HST.out, HSM.out], below_drewN HBX.out _⟩
                      case measure => simp [intOf]; omega
                by_cases h2 : q = 2
                ·
                  subst h2
                  have hsm : ∀ mt, stepM how key ⟨mv, mt⟩ ⟨f, 2, ky, v⟩ = ⟨mv, mt && !(decide (cmpH how ky key ≤ 0 ∧ cmpH how key v < 0))⟩ := fun mt => by unfold stepM; rw [if_neg (show ¬ (2 : Int) = 1 by decide), if_neg (show ¬ (2 : Int) = 0 by decide), if_pos rfl]
                  have hq1 := fun w => rCompare_any how ky key w
                  have hq2 := fun w => rCompare_any how key v w
                  generalize cmpH how ky key = c1 at *
                  generalize cmpH how key v = c2 at *
                  have HC1 := Lib.hid hq1
                  have HC2 := Lib.hid hq2
                  clear hq1 hq2
                  rcases mt with _ | _
                  · have HSM : Hid (stepM how key ⟨mv, false⟩ ⟨f, 2, ky, v⟩ = ⟨mv, false⟩) := by rw [hsm]; rfl
                    clear hsm
                    go_wp2_with fail
                    go_quiet (fail)
                    go_wp2_with fail
                    go_roundw
                    case rel => exact ⟨j + 1, by omega, by go_num, by rw [HST.out, HSM.out], by rw [HST.out, HSM.out], below_drewN HBX.out _⟩
                    case measure => simp [intOf]; omega
                  · by_cases d1 : c1 ≤ 0
                    · have e1 : decide (c1 ≤ 0) = true := decide_eq_true d1
                      by_cases d2 : c2 < 0
                      · have e2 : decide (c2 < 0) = true := decide_eq_true d2
                        have HSM : Hid (stepM how key ⟨mv, true⟩ ⟨f, 2, ky, v⟩ = ⟨mv, false⟩) := by rw [hsm, decide_eq_true ⟨d1, d2⟩]; rfl
                        clear hsm d1 d2
                        go_wp2_with fail
                        go_quiet ((go_at_call 11; first | (with_reducible exact Calls.quiet_of_same (HC1.out _)) | (with_reducible exact Calls.quiet_of_same (HC2.out _))))
                        go_wp2_with fail
                        go_roundw
                        case rel => exact ⟨j + 1, by omega, by go_num, by rw [HST.out, HSM.out], by rw [HST.out, HSM.out], below_drewN HBX.out _⟩
                        case measure => simp [intOf]; omega
                      · have e2 : decide (c2 < 0) = false := decide_eq_false d2
                        have HSM : Hid (stepM how key ⟨mv, true⟩ ⟨f, 2, ky, v⟩ = ⟨mv, true⟩) := by rw [hsm, decide_eq_false (fun h => d2 h.2)]; rfl
                        clear hsm d1 d2
                        go_wp2_with fail
                        go_quiet ((go_at_call 11; first | (with_reducible exact Calls.quiet_of_same (HC1.out _)) | (with_reducible exact Calls.quiet_of_same (HC2.out _))))
                        go_wp2_with fail
                        go_roundw
                        case rel => exact ⟨j + 1, by omega, by go_num, by rw [HST.out, HSM.out], by rw [HST.out, HSM.out], below_drewN HBX.out _⟩
                        case measure => simp [intOf]; omega
                    · have e1 : decide (c1 ≤ 0) = false := decide_eq_false d1
                      have HSM : Hid (stepM how key ⟨mv, true⟩ ⟨f, 2, ky, v⟩ = ⟨mv, true⟩) := by rw [hsm, decide_eq_false (fun h => d1 h.1)]; rfl
                      clear hsm d1
                      go_wp2_with fail
                      go_quiet ((go_at_call 11; first | (with_reducible exact Calls.quiet_of_same (HC1.out _)) | (with_reducible exact Calls.quiet_of_same (HC2.out _))))
                      go_wp2_with fail
                      go_roundw
                      case rel => exact ⟨j + 1, by omega, by go_num, by rw [HST.out, HSM.out], by rw [HST.out, HSM.out], below_drewN HBX.out _⟩
                      case measure => simp [intOf]; omega
                ·
                  have HSM : Hid (stepM how key ⟨mv, mt⟩ ⟨f, q, ky, v⟩ = ⟨mv, mt⟩) := by unfold stepM; rw [if_neg h1, if_neg h0, if_neg h2]; rfl
                  have e0 : (q == 0) = false := by simpa using h0
                  have e1 : (q == 1) = false := by simpa using h1
                  have e2 : (q == 2) = false := by simpa using h2
                  clear h0 h1 h2
                  go_wp2_with fail
                  go_roundw
                  case rel => exact ⟨j + 1, by omega, by go_num, by rw [HST.out, HSM.out], by rw [HST.out, HSM.out], HBX.out⟩
                  case measure => simp [intOf]; omega
              · obtain rfl : j = D.length := by omega
                rw [List.take_length]
                have hag := HAG.out
                generalize mapM how key D = m at *
                obtain ⟨mv, mt⟩ := m
                have kc := HKC.out _ HC.out
                have hG := mGet_one (HO.out.below HC.out) HK.out.ok key 72057594037927935
                generalize getS how S key 72057594037927935 = r at *
                obtain ⟨gv, gk, gi⟩ := r
                unfold tripV at hG
                dsimp only at hG hag ⊢
                obtain ⟨ha1, ha2⟩ := hag
                dsimp only at ha1 ha2
                have HG := Lib.hid hG
                clear hG HAG
                go_wp2_with fail
                refine HG.out.mono ?_
                rintro e w5 ⟨rfl, hb5⟩
                have HB5 := Lib.hid (HC.out.trans (hb5.mono HC.out.size))
                clear hb5 HG
                rcases mt with _ | _
                · rcases gi with _ | _
                  · clear ha1 ha2
                    go_wp2_with fail
                    go_roundw
                    case rel => exact ⟨k2 + 1, by omega, by go_num, HB5.out⟩
                    case measure => simp [intOf]; omega
                  · have hgk : (gk == 1) = false := by
                      rw [beq_eq_false_iff_ne]; intro e; have := ha1.2 ⟨rfl, e⟩; cases this
                    clear ha1 ha2
                    go_wp2_with fail
                    go_roundw
                    case rel => exact ⟨k2 + 1, by omega, by go_num, HB5.out⟩
                    case measure => simp [intOf]; omega
                · obtain ⟨rfl, rfl⟩ := ha1.1 rfl
                  have hv := ha2 rfl
                  subst hv
                  clear ha1 ha2
                  go_wp2_with fail
                  go_roundw
                  case rel => exact ⟨k2 + 1, by omega, by go_num, HB5.out⟩
                  case measure => simp [intOf]; omega
          · obtain rfl : k2 = keys.length := by omega
            go_wp2_with fail
            refine (lives07_any _).mono ?_
            rintro e w3 ⟨rfl, hb3⟩
            go_wp2_with fail
            go_ret
            exact ⟨rfl, HB.out.trans ((HC.out.trans (hb3.mono HC.out.size)).mono HB.out.size)⟩
end Go.Proofs.Ytodnojpolkdlmaa
