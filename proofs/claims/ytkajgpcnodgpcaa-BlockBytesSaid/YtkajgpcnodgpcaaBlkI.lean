/-
  The program's writer: end.
-/
import Derived.Test.YtkajgpcnodgpcaaBlkH
namespace Go.Proofs.Ytkajgpcnodgpcaa
set_option linter.unusedSimpArgs false
set_option linter.unusedVariables false
open Go.RowKit Go.IntWalk
attribute [local go_sem ↓] Go.wp_at_zero Go.wp_at_succ

structure EndS (w0 w : World) (base g : Nat) (c0 c1 c2 c4 : Value) (bl : List UInt8) (qs : List Nat) (bv tv : Value) : Prop where
  blk : Blk w g 63 #[c0, c1, c2, bv, c4]
  bg0 : base ≤ g
  ob : Own w base 5 1 bv bl.length (bl.map byteV)
  ow : Own w base 3 1 tv qs.length (qs.map intV)
  nbk : nb bv.ownBlock tv.ownBlock
  bg : bv.ownBlock ≠ some g
  wg : tv.ownBlock ≠ some g
  below : Below base w0 w
  size : w0.heap.size ≤ w.heap.size
  bs : base ≤ w0.heap.size
section
variable {w0 w w1 w2 : World} {base g : Nat} {c0 c1 c2 c4 : Value} {bl : List UInt8} {qs : List Nat} {bv tv v2 : Value}
theorem EndS.move (h : EndS w0 w base g c0 c1 c2 c4 bl qs bv tv) (hb : Below w.heap.size w w1) : EndS w0 w1 base g c0 c1 c2 c4 bl qs bv tv :=
  ⟨h.blk.below hb h.blk.lt, h.bg0, h.ob.keep hb (Nat.le_refl _), h.ow.keep hb (Nat.le_refl _), h.nbk, h.bg, h.wg, h.below.trans (hb.mono (Nat.le_trans h.bs h.size)), Nat.le_trans h.size hb.size, h.bs⟩
theorem EndS.appT {cs : List Nat} (h : EndS w0 w1 base g c0 c1 c2 c4 bl qs bv tv) (hO : Own w2 base 3 1 v2 (qs ++ cs).length ((qs ++ cs).map intV)) (hG : w1.grownBy w2 tv.ownBlock) (hl : v2.ownBlock = tv.ownBlock ∨ v2.ownBlock = some w1.heap.size) :
    EndS w0 w2 base g c0 c1 c2 c4 bl (qs ++ cs) bv v2 := by
  have hz := hG.size
  have hg := h.blk.lt
  refine ⟨h.blk.grown hG (Ne.symm h.wg), h.bg0, h.ob.kept hG h.nbk, hO, ?_, h.bg, ?_, h.below.grown hG (Nat.le_trans h.bs h.size) (fun k hk => (h.ow.lt k hk).1), by have := h.size; omega, h.bs⟩
  · rcases hl with h2 | h2 <;> rw [h2]
    · exact h.nbk
    · rcases hq : bv.ownBlock with _ | k
      · exact .inl rfl
      · refine .inr fun e => ?_
        injection e with e
        have := (h.ob.lt k hq).2; omega
  · rcases hl with h2 | h2 <;> rw [h2]
    · exact h.wg
    · intro e; injection e with e; omega
theorem EndS.appB {cs : List UInt8} (h : EndS w0 w1 base g c0 c1 c2 c4 bl qs bv tv) (hO : Own w2 base 5 1 v2 (bl ++ cs).length ((bl ++ cs).map byteV)) (hG : w1.grownBy w2 bv.ownBlock) (hl : From w1 bv v2) :
    EndS w0 (w2.setCell ⟨g, 3, none⟩ v2) base g c0 c1 c2 c4 (bl ++ cs) qs v2 tv := by
  have hz := hG.size
  have hg := h.blk.lt
  have hb2 := h.blk.grown hG (Ne.symm h.bg)
  have hv2 : v2.ownBlock ≠ some g := by
    rcases hl with h2 | h3
    · rw [h2]; exact h.bg
    · intro e; have := h3 _ e; omega
  refine ⟨hb2.set_ 3 v2, h.bg0, hO.far hv2 v2, (h.ow.kept hG (nb_symm h.nbk)).far h.wg v2, ?_, hv2, h.wg, ?_, ?_, h.bs⟩
  · rcases hl with h2 | h3
    · rw [h2]; exact h.nbk
    · rcases hq : v2.ownBlock with _ | k
      · exact .inl rfl
      · refine .inr fun e => ?_
        have := (h.ow.lt k e.symm).2
        have := h3 k hq; omega
  · exact (h.below.grown hG (Nat.le_trans h.bs h.size) (fun k hk => (h.ob.lt k hk).1)).setCell h.bg0 _
  · have := h.size; simp; omega
end
theorem flat_snoc1 (ps : List Nat) (n : Nat) : ((ps ++ [n]).flatMap fun n => leB n 4) = (ps.flatMap fun n => leB n 4) ++ leB n 4 := by simp
set_option maxHeartbeats 4000000 in
set_option maxRecDepth 100000 in
theorem bEnd_any (w : World) (base g R : Nat) (st : Wst) (lv bv wv : Value) (hbase : base ≤ w.heap.size)
    (hw : Wr w base g R st lv bv wv) (hbl : st.b.length ≤ 100000000000) (hwl : st.ws.length ≤ 65536) (hx : ∀ x ∈ st.ws, x ≤ 3000000000) :
    Calls Try.prog 28 #[.pointer (some ⟨g, 0, none⟩)] w fun e w' => ∃ v, e = .returned v ∧ Below base w w' ∧ w.heap.size ≤ w'.heap.size ∧ Own w' base 5 1 v (endL st).length ((endL st).map byteV) := by
  obtain ⟨i0, hi, hz0, hz1, hz2⟩ := info_parts info_byte
  obtain ⟨i1, hj, hy0, hy1, hy2⟩ := info_parts info_int
  obtain ⟨n, last, bl, ws⟩ := st
  obtain ⟨hblk, hbg, hlr, hob, how, hnb, hbg2, hwg⟩ := hw
  dsimp only at *
  clear hlr
  obtain ⟨ps, hps⟩ : ∃ ps, places ⟨n, last, bl, ws⟩ = ps := ⟨_, rfl⟩
  obtain ⟨res, hres⟩ : ∃ res, endL ⟨n, last, bl, ws⟩ = res := ⟨_, rfl⟩
  have hE : bl ++ ps.flatMap (fun n => leB n 4) ++ leB ps.length 4 = res := by rw [← hres, ← hps]; unfold endL; rw [List.append_assoc]
  rw [hres]
  have HE := Lib.hid hE
  clear hE hres
  have hpx : ∀ x ∈ ps, x ≤ 3000000000 := by
    rw [← hps]; unfold places; split
    · intro x hx; rw [List.mem_singleton] at hx; omega
    · exact hx
  have hpl : ps.length ≤ 65536 := by
    rw [← hps]; unfold places; split
    · simp
    · exact hwl
  have hb0 := hblk
  obtain ⟨wA, wcp, rfl, -⟩ := how.rd
  have c4 := hblk.cell 4
  have f4 := hblk.frozen 4
  simp only [List.getElem?_toArray, List.getElem?_cons_zero, List.getElem?_cons_succ] at c4
  have hlt := hblk.lt
  by_cases hws : ws = []
  · subst hws
    have hp : ps = [0] := by rw [← hps]; rfl
    clear hps hx
    have HBK := Lib.hid hblk
    have HOB := Lib.hid hob
    have HNB := Lib.hid hnb
    have HBG := Lib.hid hbg2
    clear hblk hb0 hob how hnb hwg hbg2
    go_enter Try.func28, Try.ntmps28
    have hA4 : ∀ o, (w.alloc o).cell? ⟨g, 4, none⟩ = some (.slice wA ([] : List Nat).length wcp) := fun o => (HBK.out.alloc o).cell 4
    have hF4 : ∀ o, (w.alloc o).frozen? ⟨g, 4, none⟩ = false := fun o => (HBK.out.alloc o).frozen 4
    simp only [List.length_nil] at c4 hA4
    go_wp2_with fail
    have hS0 : EndS w ((w.setCell ⟨g, 4, none⟩ (.slice (some ⟨w.heap.size, 0, none⟩) 1 1)).alloc (.cells #[.int .i64 0] 3)) base g (.int .i64 R) (.int .i64 n) lv (.slice (some ⟨w.heap.size, 0, none⟩) ps.length 1) bl ps bv (.slice (some ⟨w.heap.size, 0, none⟩) ps.length 1) := by
      subst hp
      have hz : (w.setCell ⟨g, 4, none⟩ (.slice (some ⟨w.heap.size, 0, none⟩) 1 1)).heap.size = w.heap.size := by simp
      have hbn := Blk.new (w.setCell ⟨g, 4, none⟩ (.slice (some ⟨w.heap.size, 0, none⟩) 1 1)) 3 #[.int .i64 0]
      rw [hz] at hbn
      refine ⟨(HBK.out.set_ 4 _).alloc _, hbg, (HOB.out.far HBG.out _).alloc _, hbn.own hbase (Nat.le_refl 1) (by unfold maxLen; omega) rfl rfl, ?_, HBG.out, ?_, ((Below.refl _ _).setCell hbg _).alloc (by rw [hz]; exact hbase) _, by simp, hbase⟩
      · rcases hq : bv.ownBlock with _ | k
        · exact .inl rfl
        · refine .inr fun e => ?_
          simp [Value.ownBlock] at e
          have := (HOB.out.lt k hq).2; omega
      · intro e; simp [Value.ownBlock] at e; omega
    clear HBK HOB HNB HBG c4 f4 hA4 hF4 hp
    have HS0 := Lib.hid hS0
    clear hS0
    generalize ((w.setCell ⟨g, 4, none⟩ (.slice (some ⟨w.heap.size, 0, none⟩) 1 1)).alloc (.cells #[.int .i64 0] 3)) = W0 at HS0 ⊢
    have c4 := HS0.out.blk.cell 4
    simp only [List.getElem?_toArray, List.getElem?_cons_zero, List.getElem?_cons_succ] at c4
    go_upto_region 3 with fail
    go_cut [25, 26, 27] (fun s25 s26 s27 wx => Hid (s27 = .int .i64 0 ∧ s26 = .int .i64 ((ps ++ [ps.length]).length : Nat) ∧ EndS w wx base g (.int .i64 R) (.int .i64 n) lv (.slice (some ⟨w.heap.size, 0, none⟩) ps.length 1) bl (ps ++ [ps.length]) bv s25))
    case first =>
      have a4 : ∀ o, (W0.alloc o).cell? ⟨g, 4, none⟩ = some (.slice (some ⟨w.heap.size, 0, none⟩) ps.length 1) := fun o => (HS0.out.blk.alloc o).cell 4
      have HS1 := Lib.hid (HS0.out.move (((Below.refl _ W0).alloc (Nat.le_refl _) (.cells #[.int .i64 (ps.length : Nat)] 3)).drew))
      go_region_law ((refine step_append _ rfl (.tmp 18) (.tmp 24) 61 61 rfl base 3 i1 (.int .i64 0) 1 8 Try.underlying61 hj hy0 hy1 hy2 rfl (by decide) _ _ _ (by rfl) HS1.out.ow _ 1 [.int .i64 (ps.length : Nat)] (by rfl) (Src.slice _ Try.underlying61 rfl (Rd.new _ _ _).drew) ?c1 ?c2 ?c3 ?c4 ?_); (case c1 => simp [Value.oneCell']); (case c2 => (unfold maxLen; omega)); (case c3 => omega); (case c4 => (have := HS1.out.bs; have := HS1.out.size; omega)); intro wv2 w2 hO2 hG2 hl2; obtain ⟨wA2, wc2, rfl, -⟩ := hO2.rd; have HO2 := Lib.hid hO2; have HG2 := Lib.hid hG2; have HL2 := Lib.hid hl2; clear hO2 hG2 hl2)
      all_goals (
        go_wp2_with fail
        go_meet
        exact ⟨rfl, by simp, HS1.out.appT (by simpa [intV] using HO2.out) HG2.out HL2.out⟩)
    case rest =>
      obtain ⟨rfl, rfl, hS2⟩ := hcut.out
      have HS2 := Lib.hid hS2
      clear hcut hS2 c4 HS0
      have hqx : ∀ x ∈ ps ++ [ps.length], x ≤ 3000000000 := fun x hx => by
        rcases List.mem_append.1 hx with h | h
        · exact hpx x h
        · rw [List.mem_singleton] at h; omega
      have hql : (ps ++ [ps.length]).length ≤ 70000 := by rw [List.length_append]; simp; omega
      clear hpx hpl
      have hHE := HE.out
      rw [List.append_assoc, ← flat_snoc1] at hHE
      clear HE
      generalize ps ++ [ps.length] = qs at *
      obtain ⟨tA, tc, rfl, -⟩ := HS2.out.ow.rd
      have HQX := Lib.hid hqx
      have HHE := Lib.hid hHE
      clear hqx hHE
      go_wp2_with fail
      go_loopw [4, 27] (fun s4 s27 wr => ∃ (j : Nat) (bv : Value) (bx : List UInt8), j ≤ qs.length ∧ s27 = .int .i64 j ∧ bx.length ≤ bl.length + 4 * j ∧ Hid (EndS w wr base g (.int .i64 R) (.int .i64 n) lv (.slice (some ⟨w.heap.size, 0, none⟩) ps.length 1) bx qs bv (.slice tA qs.length tc)) ∧ Hid (bx = bl ++ (qs.take j).flatMap fun n => leB n 4)) (fun _ s27 _ => qs.length - (intOf s27).toNat)
      case atStart => exact ⟨0, bv, bl, Nat.zero_le _, rfl, Nat.le_refl _, HS2.out, by simp [Hid]⟩
      case round =>
        clear HS2
        obtain ⟨j, bv2, bx, hj, rfl, hbx, HS3, HX⟩ := hrel
        obtain ⟨bA, bc, rfl, -⟩ := HS3.out.ob.rd
        have c3 := HS3.out.blk.cell 3
        simp only [List.getElem?_toArray, List.getElem?_cons_zero, List.getElem?_cons_succ] at c3
        by_cases hjl : j < qs.length
        · obtain ⟨pb, po, hpe, hpb, hpc⟩ := place_at HS3.out.ow.rd' hjl
          have hx := HQX.out qs[j] (List.getElem_mem hjl)
          have hsn := flat_snoc qs j hjl
          have HSN := Lib.hid hsn; clear hsn
          generalize qs[j] = x at *
          subst hpe
          have hF := fun w => cFixed32_any x w (by omega)
          have HF := Lib.hid hF; clear hF
          have hwx : IntKind.u32.wrap (x : Int) = (x : Int) := u32_in _ (by omega)
          go_wp2_with fail
          go_region_law (first | ((go_simp; go_at_call 55; refine (HF.out _).mono ?_; rintro e w2 ⟨x2, rfl, hb2, hx2⟩; have hs2 := HS3.out.move (w1 := w2) ((Below.refl _ _).drew.trans hb2); have c3 := hs2.blk.cell 3; simp only [List.getElem?_toArray, List.getElem?_cons_zero, List.getElem?_cons_succ] at c3; obtain ⟨xA, xc, rfl, -, -, hxr⟩ := hx2.rd; have HS4 := Lib.hid hs2; have HXR := Lib.hid hxr; clear hs2 hxr hx2 hb2)) | ((refine step_append _ rfl (.tmp 35) (.tmp 38) 23 23 rfl base 5 i0 (.int .u8 0) 1 1 Try.underlying23 hi hz0 hz1 hz2 rfl (by decide) _ _ _ (by rfl) HS4.out.ob _ 4 _ (by rfl) (Src.slice _ Try.underlying23 (by rw [List.length_map, leB_len]) HXR.out) ?c1 ?c2 ?c3 ?c4 ?_); (case c1 => (intro u hu; obtain ⟨x, _, rfl⟩ := List.mem_map.1 hu; rfl)); (case c2 => (unfold maxLen; omega)); (case c3 => omega); (case c4 => (have := HS4.out.bs; have := HS4.out.size; omega)); intro bv5 w5 hO5 hG5 hl5; have hb5 := HS4.out.blk.grown hG5 (Ne.symm HS4.out.bg); have c3 := hb5.cell 3; have f3 := hb5.frozen 3; simp only [List.getElem?_toArray, List.getElem?_cons_zero, List.getElem?_cons_succ] at c3; obtain ⟨bA5, bc5, rfl, -⟩ := hO5.rd; have HO5 := Lib.hid hO5; have HG5 := Lib.hid hG5; have HL5 := Lib.hid hl5; clear hO5 hG5 hl5 hb5))
          all_goals (
            go_wp2_with fail
            go_roundw
            case rel => exact ⟨j + 1, _, bx ++ leB x 4, by omega, by go_num, (by rw [List.length_append, leB_len]; omega), HS4.out.appB (by rw [List.map_append, List.length_append, leB_len]; exact HO5.out) HG5.out (HL5.out.imp id (fun h k hk => by rw [h] at hk; injection hk with hk; omega)), (by rw [Hid, HSN.out, HX.out, List.append_assoc])⟩
            case measure => simp [intOf]; omega)
        · obtain rfl : j = qs.length := by omega
          go_wp2_with fail
          go_ret
          have hx := HX.out
          rw [List.take_length] at hx
          exact ⟨_, rfl, HS3.out.below, HS3.out.size, by rw [← HHE.out, ← hx]; exact HS3.out.ob⟩
  · have hp : places ⟨n, last, bl, ws⟩ = ws := by unfold places; rw [if_neg hws]
    rw [hp] at hps
    obtain rfl : ps = ws := hps.symm
    have hw0 : ((ps.length : Int) == 0) = false := by rw [beq_eq_false_iff_ne]; intro h; exact hws (List.eq_nil_of_length_eq_zero (by omega))
    have hS0 : EndS w w base g (.int .i64 R) (.int .i64 n) lv (.slice wA ps.length wcp) bl ps bv (.slice wA ps.length wcp) := ⟨hblk, hbg, hob, how, hnb, hbg2, hwg, Below.refl _ _, Nat.le_refl _, hbase⟩
    clear hblk hb0 hob how hnb hwg hbg2 hx hp hws
    go_enter Try.func28, Try.ntmps28
    go_wp2_with fail
    have HS0 := Lib.hid hS0
    clear hS0
    skip
    have c4 := HS0.out.blk.cell 4
    simp only [List.getElem?_toArray, List.getElem?_cons_zero, List.getElem?_cons_succ] at c4
    go_upto_region 3 with fail
    go_cut [25, 26, 27] (fun s25 s26 s27 wx => Hid (s27 = .int .i64 0 ∧ s26 = .int .i64 ((ps ++ [ps.length]).length : Nat) ∧ EndS w wx base g (.int .i64 R) (.int .i64 n) lv (.slice wA ps.length wcp) bl (ps ++ [ps.length]) bv s25))
    case first =>
      have a4 : ∀ o, (w.alloc o).cell? ⟨g, 4, none⟩ = some (.slice wA ps.length wcp) := fun o => (HS0.out.blk.alloc o).cell 4
      have HS1 := Lib.hid (HS0.out.move (((Below.refl _ w).alloc (Nat.le_refl _) (.cells #[.int .i64 (ps.length : Nat)] 3)).drew))
      go_region_law ((refine step_append _ rfl (.tmp 18) (.tmp 24) 61 61 rfl base 3 i1 (.int .i64 0) 1 8 Try.underlying61 hj hy0 hy1 hy2 rfl (by decide) _ _ _ (by rfl) HS1.out.ow _ 1 [.int .i64 (ps.length : Nat)] (by rfl) (Src.slice _ Try.underlying61 rfl (Rd.new _ _ _).drew) ?c1 ?c2 ?c3 ?c4 ?_); (case c1 => simp [Value.oneCell']); (case c2 => (unfold maxLen; omega)); (case c3 => omega); (case c4 => (have := HS1.out.bs; have := HS1.out.size; omega)); intro wv2 w2 hO2 hG2 hl2; obtain ⟨wA2, wc2, rfl, -⟩ := hO2.rd; have HO2 := Lib.hid hO2; have HG2 := Lib.hid hG2; have HL2 := Lib.hid hl2; clear hO2 hG2 hl2)
      all_goals (
        go_wp2_with fail
        go_meet
        exact ⟨rfl, by simp, HS1.out.appT (by simpa [intV] using HO2.out) HG2.out HL2.out⟩)
    case rest =>
      obtain ⟨rfl, rfl, hS2⟩ := hcut.out
      have HS2 := Lib.hid hS2
      clear hcut hS2 c4 HS0
      have hqx : ∀ x ∈ ps ++ [ps.length], x ≤ 3000000000 := fun x hx => by
        rcases List.mem_append.1 hx with h | h
        · exact hpx x h
        · rw [List.mem_singleton] at h; omega
      have hql : (ps ++ [ps.length]).length ≤ 70000 := by rw [List.length_append]; simp; omega
      clear hpx hpl
      have hHE := HE.out
      rw [List.append_assoc, ← flat_snoc1] at hHE
      clear HE
      generalize ps ++ [ps.length] = qs at *
      obtain ⟨tA, tc, rfl, -⟩ := HS2.out.ow.rd
      have HQX := Lib.hid hqx
      have HHE := Lib.hid hHE
      clear hqx hHE
      go_wp2_with fail
      go_loopw [4, 27] (fun s4 s27 wr => ∃ (j : Nat) (bv : Value) (bx : List UInt8), j ≤ qs.length ∧ s27 = .int .i64 j ∧ bx.length ≤ bl.length + 4 * j ∧ Hid (EndS w wr base g (.int .i64 R) (.int .i64 n) lv (.slice wA ps.length wcp) bx qs bv (.slice tA qs.length tc)) ∧ Hid (bx = bl ++ (qs.take j).flatMap fun n => leB n 4)) (fun _ s27 _ => qs.length - (intOf s27).toNat)
      case atStart => exact ⟨0, bv, bl, Nat.zero_le _, rfl, Nat.le_refl _, HS2.out, by simp [Hid]⟩
      case round =>
        clear HS2
        obtain ⟨j, bv2, bx, hj, rfl, hbx, HS3, HX⟩ := hrel
        obtain ⟨bA, bc, rfl, -⟩ := HS3.out.ob.rd
        have c3 := HS3.out.blk.cell 3
        simp only [List.getElem?_toArray, List.getElem?_cons_zero, List.getElem?_cons_succ] at c3
        by_cases hjl : j < qs.length
        · obtain ⟨pb, po, hpe, hpb, hpc⟩ := place_at HS3.out.ow.rd' hjl
          have hx := HQX.out qs[j] (List.getElem_mem hjl)
          have hsn := flat_snoc qs j hjl
          have HSN := Lib.hid hsn; clear hsn
          generalize qs[j] = x at *
          subst hpe
          have hF := fun w => cFixed32_any x w (by omega)
          have HF := Lib.hid hF; clear hF
          have hwx : IntKind.u32.wrap (x : Int) = (x : Int) := u32_in _ (by omega)
          go_wp2_with fail
          go_region_law (first | ((go_simp; go_at_call 55; refine (HF.out _).mono ?_; rintro e w2 ⟨x2, rfl, hb2, hx2⟩; have hs2 := HS3.out.move (w1 := w2) ((Below.refl _ _).drew.trans hb2); have c3 := hs2.blk.cell 3; simp only [List.getElem?_toArray, List.getElem?_cons_zero, List.getElem?_cons_succ] at c3; obtain ⟨xA, xc, rfl, -, -, hxr⟩ := hx2.rd; have HS4 := Lib.hid hs2; have HXR := Lib.hid hxr; clear hs2 hxr hx2 hb2)) | ((refine step_append _ rfl (.tmp 35) (.tmp 38) 23 23 rfl base 5 i0 (.int .u8 0) 1 1 Try.underlying23 hi hz0 hz1 hz2 rfl (by decide) _ _ _ (by rfl) HS4.out.ob _ 4 _ (by rfl) (Src.slice _ Try.underlying23 (by rw [List.length_map, leB_len]) HXR.out) ?c1 ?c2 ?c3 ?c4 ?_); (case c1 => (intro u hu; obtain ⟨x, _, rfl⟩ := List.mem_map.1 hu; rfl)); (case c2 => (unfold maxLen; omega)); (case c3 => omega); (case c4 => (have := HS4.out.bs; have := HS4.out.size; omega)); intro bv5 w5 hO5 hG5 hl5; have hb5 := HS4.out.blk.grown hG5 (Ne.symm HS4.out.bg); have c3 := hb5.cell 3; have f3 := hb5.frozen 3; simp only [List.getElem?_toArray, List.getElem?_cons_zero, List.getElem?_cons_succ] at c3; obtain ⟨bA5, bc5, rfl, -⟩ := hO5.rd; have HO5 := Lib.hid hO5; have HG5 := Lib.hid hG5; have HL5 := Lib.hid hl5; clear hO5 hG5 hl5 hb5))
          all_goals (
            go_wp2_with fail
            go_roundw
            case rel => exact ⟨j + 1, _, bx ++ leB x 4, by omega, by go_num, (by rw [List.length_append, leB_len]; omega), HS4.out.appB (by rw [List.map_append, List.length_append, leB_len]; exact HO5.out) HG5.out (HL5.out.imp id (fun h k hk => by rw [h] at hk; injection hk with hk; omega)), (by rw [Hid, HSN.out, HX.out, List.append_assoc])⟩
            case measure => simp [intOf]; omega)
        · obtain rfl : j = qs.length := by omega
          go_wp2_with fail
          go_ret
          have hx := HX.out
          rw [List.take_length] at hx
          exact ⟨_, rfl, HS3.out.below, HS3.out.size, by rw [← HHE.out, ← hx]; exact HS3.out.ob⟩
end Go.Proofs.Ytkajgpcnodgpcaa
