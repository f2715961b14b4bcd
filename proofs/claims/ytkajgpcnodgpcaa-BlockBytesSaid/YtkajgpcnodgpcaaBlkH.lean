/-
  The program's writer: add.
-/
import Derived.Test.YtkajgpcnodgpcaaBlkG
import Derived.Deep.RegionLaw
import Derived.Deep.RegionHeld3
import Derived.Deep.DrawnRows
import Derived.Deep.DeepCutAuto
namespace Go.Proofs.Ytkajgpcnodgpcaa
set_option linter.unusedSimpArgs false
set_option linter.unusedVariables false
open Go.RowKit Go.IntWalk
attribute [local go_sem ↓] Go.wp_at_zero Go.wp_at_succ

/-- behind the first half of add -/
def AddA (w : World) (base g kg R n m : Nat) (lv : Value) (bl kl : List UInt8) (ws : List Nat) (s6 : Value) (wx : World) : Prop :=
  s6 = .int .i64 m ∧ ∃ bv wv, AddS w wx base g kg R n lv bl kl ws bv wv
def addE (R : Nat) (st : Wst) (kl : List UInt8) (v : ByteArray) : Wst := ⟨st.n + 1, kl, st.b ++ entL kl v (if st.n % R = 0 then 0 else comL st.last kl), if st.n % R = 0 then st.ws ++ [st.b.length] else st.ws⟩
set_option maxHeartbeats 4000000 in
set_option maxRecDepth 100000 in
theorem bAdd_any (w : World) (base g R : Nat) (st : Wst) (lv bv wv : Value) (kg kc : Nat) (kl : List UInt8) (v : ByteArray) (hR : 0 < R) (hR2 : R ≤ 1024) (hbase : base ≤ w.heap.size)
    (hw : Wr w base g R st lv bv wv) (hn : st.n ≤ 65536) (hbl : st.b.length ≤ 100000000000) (hwl : st.ws.length ≤ 65536) (hll : st.last.length ≤ 2000)
    (hk : Bs w w.heap.size (some ⟨kg, 0, none⟩) kl) (hk0 : 0 < kl.length) (hk1 : kl.length ≤ 2000) (hkc : kl.length ≤ kc) (hv : v.size ≤ 20000) (hks : kg < w.heap.size)
    (hkb : some kg ≠ bv.ownBlock) (hkw : some kg ≠ wv.ownBlock) (hkg : kg ≠ g) :
    Calls Try.prog 27 #[.pointer (some ⟨g, 0, none⟩), .slice (some ⟨kg, 0, none⟩) kl.length kc, .string v] w fun e w' => e = .returned (.tuple #[]) ∧
      (∃ lv' bv' wv', Wr w' base g R (addE R st kl v) lv' bv' wv') ∧ Below base w w' ∧ w.heap.size ≤ w'.heap.size := by
  obtain ⟨i0, hi, hz0, hz1, hz2⟩ := info_parts info_byte
  obtain ⟨i1, hj, hy0, hy1, hy2⟩ := info_parts info_int
  obtain ⟨n, last, bl, ws⟩ := st
  obtain ⟨hblk, hbg, ⟨lA, lc, rfl, hlr⟩, hob, how, hnb, hbg2, hwg⟩ := hw
  dsimp only at *
  have HS : Hid (AddS w w base g kg R n (.slice lA last.length lc) bl kl ws bv wv) := ⟨hblk, hbg, hob, how, hnb, hbg2, hwg, hk, hkb, hkw, hkg, hks, Below.refl _ _, Nat.le_refl _, hbase⟩
  have hlt := hblk.lt
  obtain ⟨m, hm⟩ : ∃ m, (if n % R = 0 then 0 else comL last kl) = m := ⟨_, rfl⟩
  obtain ⟨ws', hws'⟩ : ∃ ws', (if n % R = 0 then ws ++ [bl.length] else ws) = ws' := ⟨_, rfl⟩
  have HFIN : Hid (addE R ⟨n, last, bl, ws⟩ kl v = ⟨n + 1, kl, bl ++ entL kl v m, ws'⟩) := by unfold addE; rw [hm, hws']; rfl
  have hmk : m ≤ kl.length := by rw [← hm]; split; omega; exact (comL_le last kl).2
  have c0 := hblk.cell 0
  have c1 := hblk.cell 1
  simp only [List.getElem?_toArray, List.getElem?_cons_zero, List.getElem?_cons_succ] at c0 c1
  have HLR := Lib.hid hlr
  clear hob how hlr hk hnb hwg hbg2 hkb hkw hblk
  have HM := Lib.hid hm
  have HWS := Lib.hid hws'
  clear hm hws'
  go_enter Try.func27, Try.ntmps27
  go_upto_if 18 with fail
  go_quiet (fail)
  go_upto_if 18 with fail
  go_cut [6] (fun s6 wx => Hid (AddA w base g kg R n m (.slice lA last.length lc) bl kl ws' s6 wx))
  case first =>
    clear c0 c1
    have hb0 := below_drewN (Below.refl w.heap.size w) nq
    have hz0' := hb0.size
    generalize w.drewN nq = w1 at *
    have HS1 := Lib.hid (HS.out.move hb0)
    have HLR1 := Lib.hid (HLR.out.next hb0)
    clear hb0
    obtain ⟨bA, bc, rfl, -⟩ := HS.out.ob.rd
    obtain ⟨wA, wcp, rfl, -⟩ := HS.out.ow.rd
    have c2 := HS1.out.blk.cell 2
    have c3 := HS1.out.blk.cell 3
    have c4 := HS1.out.blk.cell 4
    simp only [List.getElem?_toArray, List.getElem?_cons_zero, List.getElem?_cons_succ] at c2 c3 c4
    by_cases hm0 : n % R = 0
    · have hmz : (n : Int) % (R : Int) = 0 := by exact_mod_cast hm0
      have hmm := HM.out
      have hww := HWS.out
      rw [if_pos hm0] at hmm hww
      subst hmm hww
      clear hm0 HM HWS
      go_wp2_with fail
      have a4 : ∀ o, (w1.alloc o).cell? ⟨g, 4, none⟩ = some (.slice wA ws.length wcp) := fun o => (HS1.out.blk.alloc o).cell 4
      have a3 : ∀ o, (w1.alloc o).cell? ⟨g, 3, none⟩ = some (.slice bA bl.length bc) := fun o => (HS1.out.blk.alloc o).cell 3
      have HS2 := Lib.hid (HS1.out.move (((Below.refl _ w1).alloc (Nat.le_refl _) (.cells #[.int .i64 (bl.length : Nat)] 3)).drew))
      go_region_law ((refine step_append _ rfl (.tmp 23) (.tmp 29) 61 61 rfl base 3 i1 (.int .i64 0) 1 8 Try.underlying61 hj hy0 hy1 hy2 rfl (by decide) _ _ _ (by rfl) HS2.out.ow _ 1 [.int .i64 (bl.length : Nat)] (by rfl) (Src.slice _ Try.underlying61 rfl (Rd.new _ _ _).drew) ?c1 ?c2 ?c3 ?c4 ?_); (case c1 => simp [Value.oneCell']); (case c2 => (unfold maxLen; omega)); (case c3 => omega); (case c4 => (simp; omega)); intro wv2 w2 hO2 hG2 hl2; have hb2 := HS2.out.blk.grown hG2 (Ne.symm HS2.out.wg); have c4 := hb2.cell 4; have f4 := hb2.frozen 4; simp only [List.getElem?_toArray, List.getElem?_cons_zero, List.getElem?_cons_succ] at c4; obtain ⟨wA2, wc2, rfl, -⟩ := hO2.rd; have HO2 := Lib.hid hO2; have HG2 := Lib.hid hG2; have HL2 := Lib.hid hl2; clear hO2 hG2 hl2 hb2)
      all_goals go_wp2_with fail
      all_goals go_meet
      all_goals refine ⟨rfl, _, _, HS2.out.appW (cs := [bl.length]) ?_ HG2.out HL2.out⟩
      all_goals simpa [intV] using HO2.out
    · have hmz : (((n : Int) % (R : Int)) == 0) = false := by rw [beq_eq_false_iff_ne]; exact fun h => hm0 (by exact_mod_cast h)
      have hmm := HM.out
      have hww := HWS.out
      rw [if_neg hm0] at hmm hww
      subst hww
      clear hm0 HM HWS
      have H1 := Lib.hid (fun h1 h2 => comL_at (a := last) (b := kl) h1 h2)
      have H2 := Lib.hid (fun (k : Nat) (hk : k < comL last kl) h1 h2 => comL_before (a := last) (b := kl) hk h1 h2)
      rw [hmm] at H1 H2
      obtain ⟨q, hq, hq1⟩ : ∃ q : Nat, (if last.length < kl.length then (last.length : Int) else (kl.length : Int)) = (q : Int) ∧ ((q = last.length ∧ q < kl.length) ∨ (q = kl.length ∧ q ≤ last.length)) := by
        by_cases h : last.length < kl.length
        · exact ⟨last.length, if_pos h, .inl ⟨rfl, h⟩⟩
        · exact ⟨kl.length, if_neg h, .inr ⟨rfl, by omega⟩⟩
      have hml : m ≤ last.length := by rw [← hmm]; exact (comL_le last kl).1
      clear hmm
      go_wp2_with fail
      go_loopw [6] (fun s6 wr => ∃ k : Nat, k ≤ m ∧ s6 = .int .i64 k ∧ Hid (Below w1.heap.size w1 wr)) (fun s6 _ => m - (intOf s6).toNat)
      case atStart => exact ⟨0, Nat.zero_le _, rfl, Below.refl _ _⟩
      case round =>
        obtain ⟨k, hk, rfl, HB⟩ := hrel
        have c2 := (HB.out.cell (p := ⟨g, 2, none⟩) (show g < w1.heap.size from HS1.out.blk.lt)).trans c2
        by_cases hka : k < kl.length
        · by_cases hkb : k < last.length
          · have hd : k < q := by omega
            obtain ⟨b1, o1, rfl⟩ := Rd.addr HLR1.out hkb
            have d1 := byte_of (HLR1.out.keep HB.out) hkb
            have d2 := byte_of (HS1.out.kr.keep HB.out) hka
            rw [Nat.zero_add] at d2
            by_cases hkJ : k < m
            · have hne : (kl[k].toNat : Int) = last[k].toNat := by rw [H2.out k hkJ hkb hka]
              go_wp2_with fail
              go_quiet (fail)
              go_wp2_with fail
              go_roundw
              case rel => exact ⟨k + 1, by omega, by go_num, below_drewN HB.out _⟩
              case measure => simp [intOf]; omega
            · obtain rfl : k = m := by omega
              have hne : ((kl[k].toNat : Int) == (last[k].toNat : Int)) = false := by
                have := H1.out hkb hka
                rw [beq_eq_false_iff_ne]
                exact fun h => this (UInt8.toNat_inj.1 (by omega))
              go_wp2_with fail
              go_quiet (fail)
              go_wp2_with fail
              go_meet
              exact ⟨rfl, _, _, HS1.out.move (below_drewN HB.out _)⟩
          · have hd : q ≤ k := by omega
            obtain rfl : k = m := by have := hml; omega
            go_wp2_with fail
            go_quiet (fail)
            go_wp2_with fail
            go_meet
            exact ⟨rfl, _, _, HS1.out.move (below_drewN HB.out _)⟩
        · have hd : q ≤ k := by omega
          obtain rfl : k = m := by omega
          go_wp2_with fail
          go_quiet (fail)
          go_wp2_with fail
          go_meet
          exact ⟨rfl, _, _, HS1.out.move (below_drewN HB.out _)⟩
  case rest =>
    obtain ⟨rfl, bv1, wv1, hS0⟩ := hcut.out
    clear hcut c0 c1 HM HWS HLR HS hlt
    obtain ⟨d, hd⟩ : ∃ d, kl.length - m = d := ⟨_, rfl⟩
    have hsub : (kl.length : Int) - (m : Int) = (d : Int) := by omega
    have HS0 := Lib.hid hS0; clear hS0
    have hV := fun (n : Nat) (hn : n ≤ 18446744073709551615) w => cVarint_any n w hn
    have HV := Lib.hid hV; clear hV
    have HD := Lib.hid hd; clear hd
    go_wp2_with fail
    go_loopw [8, 67] (fun s8 s67 wr => ∃ (k : Nat) (bv : Value) (bx : List UInt8), k ≤ 3 ∧ s67 = .int .i64 k ∧ bx.length ≤ bl.length + k * 30000 ∧ Hid (AddS w wr base g kg R n (.slice lA last.length lc) bx kl ws' bv wv1) ∧ Hid (bx = bl ++ (([m, d, v.size] : List Nat).take k).flatMap varB)) (fun _ s67 _ => 3 - (intOf s67).toNat)
    case atStart => exact ⟨0, bv1, bl, by omega, rfl, by omega, HS0.out, by simp [Hid]⟩
    case round =>
      clear HS0
      obtain ⟨k, bv2, bx, hk3, rfl, hbx, HS2, HX⟩ := hrel
      obtain ⟨bA, bc, rfl, -⟩ := HS2.out.ob.rd
      have c3 := HS2.out.blk.cell 3
      simp only [List.getElem?_toArray, List.getElem?_cons_zero, List.getElem?_cons_succ] at c3
      have hcase : k = 0 ∨ k = 1 ∨ k = 2 ∨ k = 3 := by omega
      rcases hcase with rfl | rfl | rfl | rfl
      ·
        have HV1 := Lib.hid (HV.out m (by omega))
        have hwx : IntKind.u64.wrap ((m : Nat) : Int) = ((m : Nat) : Int) := u64_in _ (by omega)
        have ix : ∀ w, (Instr.index 90 (.agg #[.int .i64 (m : Int), .int .i64 (d : Int), .int .i64 (v.size : Int)]) (.int .i64 0)).run Try.prog w = .ok (.int .i64 (m : Nat)) w := fun _ => by rfl
        go_wp2_with fail
        go_region_law (first | ((go_simp; go_at_call 54; refine (HV1.out _).mono ?_; rintro e w2 ⟨x2, rfl, hb2, hx2⟩; have hs2 := HS2.out.move (w1 := w2) ((Below.refl _ _).drew.trans hb2); have c3 := hs2.blk.cell 3; simp only [List.getElem?_toArray, List.getElem?_cons_zero, List.getElem?_cons_succ] at c3; obtain ⟨xA, xc, rfl, -, -, hxr⟩ := hx2.rd; have HS4 := Lib.hid hs2; have HXR := Lib.hid hxr; clear hs2 hxr hx2 hb2)) | ((refine step_append _ rfl (.tmp 74) (.tmp 77) 23 23 rfl base 5 i0 (.int .u8 0) 1 1 Try.underlying23 hi hz0 hz1 hz2 rfl (by decide) _ _ _ (by rfl) HS4.out.ob _ _ _ (by rfl) (Src.slice _ Try.underlying23 (by simp) HXR.out) ?c1 ?c2 ?c3 ?c4 ?_); (case c1 => (intro u hu; obtain ⟨x, _, rfl⟩ := List.mem_map.1 hu; rfl)); (case c2 => (have := varB_len m; unfold maxLen; omega)); (case c3 => (have := varB_len m; omega)); (case c4 => (have := HS4.out.bs; have := HS4.out.size; omega)); intro bv5 w5 hO5 hG5 hl5; have hb5 := HS4.out.blk.grown hG5 (Ne.symm HS4.out.bg); have c3 := hb5.cell 3; have f3 := hb5.frozen 3; simp only [List.getElem?_toArray, List.getElem?_cons_zero, List.getElem?_cons_succ] at c3; obtain ⟨bA5, bc5, rfl, -⟩ := hO5.rd; have HO5 := Lib.hid hO5; have HG5 := Lib.hid hG5; have HL5 := Lib.hid hl5; clear hO5 hG5 hl5 hb5))
        all_goals have HXS := Lib.hid (HX.out)
        all_goals (
          go_wp2_with fail
          go_roundw
          case rel => exact ⟨0 + 1, _, bx ++ varB m, by omega, rfl, (by have := varB_len m; rw [List.length_append]; omega), HS4.out.appB (by simpa using HO5.out) HG5.out (HL5.out.imp id (fun h k hk => by rw [h] at hk; injection hk with hk; omega)), (by rw [Hid, HXS.out, List.append_assoc]; simp)⟩
          case measure => simp [intOf])
      ·
        have HV1 := Lib.hid (HV.out d (by omega))
        have hwx : IntKind.u64.wrap ((d : Nat) : Int) = ((d : Nat) : Int) := u64_in _ (by omega)
        have ix : ∀ w, (Instr.index 90 (.agg #[.int .i64 (m : Int), .int .i64 (d : Int), .int .i64 (v.size : Int)]) (.int .i64 1)).run Try.prog w = .ok (.int .i64 (d : Nat)) w := fun _ => by rfl
        go_wp2_with fail
        go_region_law (first | ((go_simp; go_at_call 54; refine (HV1.out _).mono ?_; rintro e w2 ⟨x2, rfl, hb2, hx2⟩; have hs2 := HS2.out.move (w1 := w2) ((Below.refl _ _).drew.trans hb2); have c3 := hs2.blk.cell 3; simp only [List.getElem?_toArray, List.getElem?_cons_zero, List.getElem?_cons_succ] at c3; obtain ⟨xA, xc, rfl, -, -, hxr⟩ := hx2.rd; have HS4 := Lib.hid hs2; have HXR := Lib.hid hxr; clear hs2 hxr hx2 hb2)) | ((refine step_append _ rfl (.tmp 74) (.tmp 77) 23 23 rfl base 5 i0 (.int .u8 0) 1 1 Try.underlying23 hi hz0 hz1 hz2 rfl (by decide) _ _ _ (by rfl) HS4.out.ob _ _ _ (by rfl) (Src.slice _ Try.underlying23 (by simp) HXR.out) ?c1 ?c2 ?c3 ?c4 ?_); (case c1 => (intro u hu; obtain ⟨x, _, rfl⟩ := List.mem_map.1 hu; rfl)); (case c2 => (have := varB_len d; unfold maxLen; omega)); (case c3 => (have := varB_len d; omega)); (case c4 => (have := HS4.out.bs; have := HS4.out.size; omega)); intro bv5 w5 hO5 hG5 hl5; have hb5 := HS4.out.blk.grown hG5 (Ne.symm HS4.out.bg); have c3 := hb5.cell 3; have f3 := hb5.frozen 3; simp only [List.getElem?_toArray, List.getElem?_cons_zero, List.getElem?_cons_succ] at c3; obtain ⟨bA5, bc5, rfl, -⟩ := hO5.rd; have HO5 := Lib.hid hO5; have HG5 := Lib.hid hG5; have HL5 := Lib.hid hl5; clear hO5 hG5 hl5 hb5))
        all_goals have HXS := Lib.hid (HX.out)
        all_goals (
          go_wp2_with fail
          go_roundw
          case rel => exact ⟨1 + 1, _, bx ++ varB d, by omega, rfl, (by have := varB_len d; rw [List.length_append]; omega), HS4.out.appB (by simpa using HO5.out) HG5.out (HL5.out.imp id (fun h k hk => by rw [h] at hk; injection hk with hk; omega)), (by rw [Hid, HXS.out, List.append_assoc]; simp)⟩
          case measure => simp [intOf])
      ·
        have HV1 := Lib.hid (HV.out v.size (by omega))
        have hwx : IntKind.u64.wrap ((v.size : Nat) : Int) = ((v.size : Nat) : Int) := u64_in _ (by omega)
        have ix : ∀ w, (Instr.index 90 (.agg #[.int .i64 (m : Int), .int .i64 (d : Int), .int .i64 (v.size : Int)]) (.int .i64 2)).run Try.prog w = .ok (.int .i64 (v.size : Nat)) w := fun _ => by rfl
        go_wp2_with fail
        go_region_law (first | ((go_simp; go_at_call 54; refine (HV1.out _).mono ?_; rintro e w2 ⟨x2, rfl, hb2, hx2⟩; have hs2 := HS2.out.move (w1 := w2) ((Below.refl _ _).drew.trans hb2); have c3 := hs2.blk.cell 3; simp only [List.getElem?_toArray, List.getElem?_cons_zero, List.getElem?_cons_succ] at c3; obtain ⟨xA, xc, rfl, -, -, hxr⟩ := hx2.rd; have HS4 := Lib.hid hs2; have HXR := Lib.hid hxr; clear hs2 hxr hx2 hb2)) | ((refine step_append _ rfl (.tmp 74) (.tmp 77) 23 23 rfl base 5 i0 (.int .u8 0) 1 1 Try.underlying23 hi hz0 hz1 hz2 rfl (by decide) _ _ _ (by rfl) HS4.out.ob _ _ _ (by rfl) (Src.slice _ Try.underlying23 (by simp) HXR.out) ?c1 ?c2 ?c3 ?c4 ?_); (case c1 => (intro u hu; obtain ⟨x, _, rfl⟩ := List.mem_map.1 hu; rfl)); (case c2 => (have := varB_len v.size; unfold maxLen; omega)); (case c3 => (have := varB_len v.size; omega)); (case c4 => (have := HS4.out.bs; have := HS4.out.size; omega)); intro bv5 w5 hO5 hG5 hl5; have hb5 := HS4.out.blk.grown hG5 (Ne.symm HS4.out.bg); have c3 := hb5.cell 3; have f3 := hb5.frozen 3; simp only [List.getElem?_toArray, List.getElem?_cons_zero, List.getElem?_cons_succ] at c3; obtain ⟨bA5, bc5, rfl, -⟩ := hO5.rd; have HO5 := Lib.hid hO5; have HG5 := Lib.hid hG5; have HL5 := Lib.hid hl5; clear hO5 hG5 hl5 hb5))
        all_goals have HXS := Lib.hid (HX.out)
        all_goals (
          go_wp2_with fail
          go_roundw
          case rel => exact ⟨2 + 1, _, bx ++ varB v.size, by omega, rfl, (by have := varB_len v.size; rw [List.length_append]; omega), HS4.out.appB (by simpa using HO5.out) HG5.out (HL5.out.imp id (fun h k hk => by rw [h] at hk; injection hk with hk; omega)), (by rw [Hid, HXS.out, List.append_assoc]; simp)⟩
          case measure => simp [intOf])
      · have hfin : bl ++ entL kl v m = bx ++ (kl.drop m ++ v.data.toList) := by rw [HX.out]; unfold entL; rw [HD.out]; simp
        have HE := Lib.hid hfin; clear hfin
        have hdl : (kl.drop m).length = d := by rw [List.length_drop]; exact HD.out
        have hkm : (m : Int) ≤ (kl.length : Int) := by omega
        have hkm2 : (0 : Int) ≤ (m : Int) := by omega
        have hkm3 : (kl.length : Int) ≤ (kc : Int) := by omega
        go_wp2_with fail
        have HS3 := Lib.hid (HS2.out.move (Below.refl _ wr).drew)
        have hcut := Rd.cutIf HS3.out.kr hkc hmk
        rw [Nat.zero_add] at hcut
        have HCUT := Lib.hid hcut; clear hcut
        go_region_law (first | ((refine step_append _ rfl (.tmp 86) (.tmp 89) 23 23 rfl base 5 i0 (.int .u8 0) 1 1 Try.underlying23 hi hz0 hz1 hz2 rfl (by decide) _ _ _ (by rfl) HS3.out.ob _ (kl.length - m) ((kl.drop m).map byteV) (by rfl) (Src.slice _ Try.underlying23 (by rw [List.length_map, List.length_drop, Nat.mul_one]) HCUT.out) ?c1 ?c2 ?c3 ?c4 ?_); (case c1 => (intro u hu; obtain ⟨x, _, rfl⟩ := List.mem_map.1 hu; rfl)); (case c2 => (unfold maxLen; omega)); (case c3 => omega); (case c4 => (have := HS3.out.bs; have := HS3.out.size; omega)); intro bv4 w4 hO4 hG4 hl4; have HO4 := Lib.hid hO4; have HG4 := Lib.hid hG4; have HL4 := Lib.hid hl4; clear hO4 hG4 hl4) | ((refine step_append _ rfl (.tmp 90) (.tmp 91) 23 9 rfl base 5 i0 (.int .u8 0) 1 1 Try.underlying23 hi hz0 hz1 hz2 rfl (by decide) _ _ _ (by rfl) HO4.out _ _ _ (by rfl) (Src.str _ Try.underlying9) ?c1 ?c2 ?c3 ?c4 ?_); (case c1 => (intro u hu; obtain ⟨x, _, rfl⟩ := List.mem_map.1 hu; rfl)); (case c2 => (unfold maxLen; omega)); (case c3 => omega); (case c4 => (have := HS3.out.bs; have := HS3.out.size; have := HG4.out.size; omega)); intro bv5 w5 hO5 hG5 hl5; have hF5 := (From.refl (World.drew wr) (.slice bA bx.length bc)).step (Nat.le_refl _) HL4.out; have hg5 := hF5.grow HG4.out hG5; have HF5 := Lib.hid (hF5.step HG4.out.size hl5); have hb5 := HS3.out.blk.grown hg5 (Ne.symm HS3.out.bg); have c3 := hb5.cell 3; have f3 := hb5.frozen 3; simp only [List.getElem?_toArray, List.getElem?_cons_zero, List.getElem?_cons_succ] at c3; obtain ⟨bA5, bc5, rfl, -⟩ := hO5.rd; have HO5 := Lib.hid hO5; have HG5 := Lib.hid hg5; clear hO5 hg5 hG5 hl5 hb5 hF5))
        all_goals have hS6 := HS3.out.appB (cs := kl.drop m ++ v.data.toList) (by rw [show (bx ++ (kl.drop m ++ v.data.toList)).length = bx.length + (kl.length - m) + v.size by rw [List.length_append, List.length_append, List.length_drop, Nat.add_assoc]; rfl, List.map_append, List.map_append, ← List.append_assoc]; exact HO5.out) HG5.out HF5.out
        all_goals rw [← HE.out] at hS6
        all_goals have HS6 := Lib.hid hS6
        all_goals clear hS6
        all_goals generalize World.setCell w5 _ _ = w6 at *
        all_goals have c1 := HS6.out.blk.cell 1
        all_goals have c2 := HS6.out.blk.cell 2
        all_goals have f1 := HS6.out.blk.frozen 1
        all_goals have f2 := HS6.out.blk.frozen 2
        all_goals simp only [List.getElem?_toArray, List.getElem?_cons_zero, List.getElem?_cons_succ] at c1 c2
        all_goals go_wp2_with fail
        all_goals go_end0
        all_goals rw [HFIN.out]
        all_goals exact ⟨rfl, HS6.out.fin.1, HS6.out.fin.2.1, HS6.out.fin.2.2⟩
end Go.Proofs.Ytkajgpcnodgpcaa
