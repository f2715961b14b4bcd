/-
  The program's Read.
-/
import Derived.Test.YtlcnachblcacjaaWalD
import Derived.Test.YtlcnachblcacjaaEls
import Derived.Deep.LoopGhost
import Derived.Deep.DeepCutAuto
namespace Go.Proofs.Ytlcnachblcacjaa
set_option linter.unusedSimpArgs false
set_option linter.unusedVariables false
open Go.RowKit Go.IntWalk

def ReadP (base : Nat) (w : World) (res : List (List UInt8) × Int × Nat) (e : Ending) (w' : World) : Prop :=
  ∃ ov vs, e = .returned (.tuple #[ov, .int .i64 res.2.1, .int .i64 (res.2.2 : Nat)]) ∧ Own w' base 22 1 ov vs.length vs ∧ Els w' vs res.1 ∧ Below base w w'
set_option maxHeartbeats 4000000 in
set_option maxRecDepth 100000 in
theorem wRead_some (bb off cap : Nat) (log : Int) (l : List UInt8) (w : World) (hcap : l.length ≤ cap) (hbs : Bs w w.heap.size (some ⟨bb, off, none⟩) l) (hbb : bb < w.heap.size) :
    Calls Try.prog 4 #[.slice (some ⟨bb, off, none⟩) l.length cap, .int .u32 log] w (ReadP w.heap.size w (readR l log)) := by
  obtain ⟨i0, hi, hz0, hz1, hz2⟩ := info_parts info_byte
  obtain ⟨i1, hj, hy0, hy1, hy2⟩ := info_parts info_bytes
  by_cases hbig : 1073741824 < l.length
  · have hr : readR l log = ([], 3, 0) := by unfold readR; rw [if_pos hbig]
    rw [hr]
    have hd : decide ((1073741824 : Int) < (l.length : Int)) = true := by simp; omega
    go_enter Try.func4, Try.ntmps4
    go_wp2
    go_ret3
    exact ⟨_, [], rfl, Own.nil _ _ _ _, trivial, Below.refl _ _⟩
  have hd : decide ((1073741824 : Int) < (l.length : Int)) = false := by simp; omega
  have hr : readR l log = run l log (recB l) (l.length + 1) ⟨0, false, [], [], 0⟩ := by unfold readR; rw [if_neg hbig]
  rw [hr]
  clear hr
  have HBS := Lib.hid hbs
  have HB0 := Lib.hid ((Below.refl w.heap.size w).alloc (Nat.le_refl _) (.cells #[.slice (some ⟨bb, off, none⟩) l.length cap, .int .u32 log, .bool false, .int .i64 7, .int .i64 0, .bool false] 40))
  have HK0 := Lib.hid (Blk.new w 40 #[.slice (some ⟨bb, off, none⟩) l.length cap, .int .u32 log, .bool false, .int .i64 7, .int .i64 0, .bool false])
  clear hbs
  have hq : bb ≠ w.heap.size := by omega
  go_enter Try.func4, Try.ntmps4
  go_upto_region 4 with fail
  go_cut [35] (fun s35 wx => s35 = .bool (recB l) ∧ wx = w.alloc (.cells #[.slice (some ⟨bb, off, none⟩) l.length cap, .int .u32 log, .bool false, .int .i64 7, .int .i64 0, .bool false] 40))
  case first =>
    by_cases h7 : 7 ≤ l.length
    · have hx := byte_of (HBS.out.keep HB0.out) (show 6 < l.length by omega)
      rw [byN_at] at hx
      have hrc : recB l = (decide (5 ≤ byN l 6) && decide (byN l 6 ≤ 8)) := by unfold recB; simp [h7]
      generalize byN l 6 = x at *
      generalize recB l = rb at *
      by_cases h5 : 5 ≤ x
      · by_cases h8 : x ≤ 8
        · have hb : rb = true := by rw [hrc]; simp [h5, h8]
          subst hb
          clear hrc
          go_wp2_with fail
          go_meet
          exact ⟨congrArg Value.bool (by simp; omega), rfl⟩
        · have hb : rb = false := by rw [hrc]; simp [h5, h8]
          subst hb
          clear hrc
          go_wp2_with fail
          go_meet
          exact ⟨congrArg Value.bool (by simp; omega), rfl⟩
      · have hb : rb = false := by rw [hrc]; simp [h5]
        subst hb
        clear hrc
        go_wp2_with fail
        go_meet
        exact ⟨rfl, rfl⟩
    · have hb : recB l = false := by unfold recB; simp [h7]
      generalize recB l = rb at *
      subst hb
      go_wp2_with fail
      go_meet
      exact ⟨rfl, rfl⟩
  case rest =>
    obtain ⟨rfl, rfl⟩ := hcut
    generalize recB l = rb at *
    cases rb
    · go_wp2_with fail
      go_loopg [8, 9, 10, 11, 12, 13] (l.length + 1) (fun gh s8 s9 s10 _ _ _ wr => ∃ (s : Ws) (ov rv : Value) (vs : List Value), s8 = ov ∧ s9 = rv ∧ s10 = .int .i64 (s.place : Nat) ∧ Wok l s ∧ l.length + 1 ≤ gh + s.pos ∧ Hid (Blk wr w.heap.size 40 (rdC (.slice (some ⟨bb, off, none⟩) l.length cap) log false s.pos s.g)) ∧ Hid (OutS w wr w.heap.size (some w.heap.size) s.out s.now ov rv vs) ∧ Hid (run l log false (l.length + 1) ⟨0, false, [], [], 0⟩ = run l log false gh s))
      case atStart =>
        refine ⟨⟨0, false, [], [], 0⟩, _, _, [], rfl, rfl, rfl, ⟨Nat.zero_le _, Nat.le_refl _, Nat.le_refl _⟩, Nat.le_refl _, ?_, ?_, rfl⟩
        · exact HK0.out
        · exact OutS.start ((Below.refl _ w).alloc (Nat.le_refl _) _) (by simp) (Nat.le_refl _)
      case round =>
        obtain ⟨s, ov, rv, vs, rfl, rfl, rfl, hok, hf, HB, HO, HR⟩ := hrel
        obtain ⟨rA, rc, rfl, -⟩ := HO.out.rr.rd
        obtain ⟨oA, oc, rfl, -⟩ := HO.out.oo.rd
        obtain ⟨f, rfl⟩ : ∃ f, gk = f + 1 := ⟨gk - 1, by have := hok.1; omega⟩
        have hN := wNext_any w.heap.size bb off cap s.pos log false s.g l wr HB.out (HBS.out.keep HO.out.below |>.more HO.out.size) (by omega) hcap hq hok.1
        have HN := Lib.hid hN
        clear hN
        have HOK := Lib.hid hok
        clear hok
        go_wp2_with fail
        refine HN.out.mono ?_
        intro e w1 hP
        obtain ⟨hg, hm⟩ := hP
        have HO1 := Lib.hid (HO.out.skip hg (fun k hk => by injection hk with hk; omega))
        clear HN hg
        rcases hn : nextB l log false s.pos s.g with how | ⟨typ, body, at'⟩
        · rw [hn] at hm
          dsimp only at hm
          subst hm
          have hs := nextB_stop hn
          have hne : (how != -1) = true := by rw [bne_iff_ne]; omega
          have hrun := HR.out
          rw [run_stop hn] at hrun
          have HRUN := Lib.hid hrun
          clear hrun hn hs
          go_wp2_with fail
          go_ret3
          rw [HRUN.out]
          exact ⟨_, vs, rfl, HO1.out.oo, HO1.out.els, HO1.out.below⟩
        · rw [hn] at hm
          obtain ⟨A, c, rfl, hA, hB⟩ := hm
          obtain ⟨hok2, hat1, hat2⟩ := HOK.out.adv hn
          obtain ⟨-, -, hbl, ht1, ht4⟩ := nextB_frag HOK.out.1 hn
          have hrun := HR.out
          rw [run_frag hn] at hrun
          have hnow : s.now.length + body.length ≤ 1073741824 := by have := HOK.out.2.1; have := HOK.out.1; omega
          have hvl : vs.length ≤ 1073741824 := by have := HOK.out.2.1; have := HOK.out.1; have := HO1.out.els.len; omega
          have hgf : l.length + 1 ≤ f + at' := by omega
          have HA := Lib.hid hA
          have HB1 := Lib.hid hB
          clear hA hB hn hbl hat1 hat2 HOK HR
          rcases (show typ = 1 ∨ typ = 2 ∨ typ = 3 ∨ typ = 4 by omega) with rfl | rfl | rfl | rfl
          ·
            go_wp2_with (at_builtin; first | (refine wpList_append _ rfl (.tmp 53) (.tmp 54) 22 22 rfl w.heap.size 5 i0 (.int .u8 0) 1 1 Try.underlying22 hi hz0 hz1 hz2 rfl (by decide) _ _ _ rfl HO1.out.rr _ body.length (body.map byteV) rfl (Src.slice _ Try.underlying22 (by simp) HA.out) ?c1 ?c2 ?c3 ?c4 ?_; (case c1 => (intro u hu; obtain ⟨x, _, rfl⟩ := List.mem_map.1 hu; rfl)); (case c2 => (unfold maxLen; omega)); (case c3 => omega); (case c4 => (have := HO1.out.size; omega)); intro rv2 w2 hO2 hG2 hl2; have ho2 := HO1.out.appR (body := body) (by rw [List.map_append, List.length_append]; exact hO2) hG2 hl2 (fun k hk => by injection hk with hk; rw [← hk]; exact HB1.out.lt); have hb2 := HB1.out.grown hG2 (nb_some HO1.out.qr); have f5 := hb2.frozen 5; have c4 := hb2.cell 4; have c5 := hb2.cell 5; simp only [rdC, List.getElem?_toArray, List.getElem?_cons_zero, List.getElem?_cons_succ] at c4 c5; have hb3 := hb2.set_ 5 (.bool false); have ho3 := ho2.skip (grow_set w.heap.size 5 (.bool false)) (fun k hk => by injection hk with hk; omega); obtain ⟨rA2, rc2, rfl, -⟩ := hO2.rd; have HB3 := Lib.hid hb3; have HO3 := Lib.hid ho3; have ho4 := ho3.move ((Below.refl _ _).alloc (Nat.le_refl _) (.cells #[.slice rA2 (s.now.length + body.length) rc2] 22)); have HO4 := Lib.hid ho4; have hsz2 : (w2.setCell ⟨w.heap.size, 5, none⟩ (.bool false)).heap.size = w2.heap.size := (by simp); have hrd := Rd.new (w2.setCell ⟨w.heap.size, 5, none⟩ (.bool false)) #[.slice rA2 (s.now.length + body.length) rc2] 22; rw [hsz2] at hrd; have HRD := Lib.hid hrd; clear ho4 hsz2 hrd; clear hO2 hG2 hl2 hb2 ho2 hb3 ho3) | (refine wpList_append _ rfl (.tmp 70) (.tmp 72) 24 24 rfl w.heap.size 22 i1 (.slice none 0 0) 1 24 Try.underlying24 hj hy0 hy1 hy2 rfl (by decide) _ _ _ rfl HO4.out.oo _ 1 _ rfl (Src.slice _ Try.underlying24 rfl HRD.out) ?c1 ?c2 ?c3 ?c4 ?_; (case c1 => simp [Value.oneCell']); (case c2 => (unfold maxLen; omega)); (case c3 => omega); (case c4 => (have := HO4.out.size; omega)); intro ov5 w5 hO5 hG5 hl5; have hb5 := (HB3.out.alloc (.cells #[.slice rA2 (s.now.length + body.length) rc2] 22)).grown hG5 (nb_some HO4.out.qo); have HB5 := Lib.hid hb5; have HO5 := Lib.hid hO5; have HG5 := Lib.hid hG5; have HL5 := Lib.hid hl5; have c4 := hb5.cell 4; simp only [rdC, List.getElem?_toArray, List.getElem?_cons_zero, List.getElem?_cons_succ, List.setIfInBounds_toArray, List.set_cons_succ, List.set_cons_zero] at c4; clear hO5 hG5 hl5 hb5))
            go_quiet (fail)
            go_wp2_with fail
            have ho4 : OutS w ((w2.setCell ⟨w.heap.size, 5, none⟩ (.bool false)).alloc (.cells #[.slice rA2 (s.now.length + body.length) rc2] 22)) w.heap.size (some w.heap.size) s.out (s.now ++ body) (.slice oA vs.length oc) (.slice rA2 (s.now ++ body).length rc2) vs := by rw [List.length_append]; exact HO4.out
            have ho5 := ho4.fin (v2 := ov5) (w1 := w5) (by rw [List.length_append, List.length_append]; exact HO5.out) HG5.out HL5.out (fun k hk => by injection hk with hk; rw [← hk]; exact (HB3.out.alloc _).lt)
            have hbd := below_drewN (Below.refl w5.heap.size w5) nq
            have ho6 := ho5.move hbd
            have hb6 := HB5.out.below hbd HB5.out.lt
            go_roundg f
            case rel => exact ⟨adv s 1 body at', _, _, _, rfl, rfl, rfl, hok2, hgf, by simpa [Hid, rdC, adv] using hb6, by simpa [Hid, adv] using ho6, hrun⟩
            case measure => omega
          ·
            go_wp2_with (at_builtin; (refine wpList_append _ rfl (.tmp 53) (.tmp 54) 22 22 rfl w.heap.size 5 i0 (.int .u8 0) 1 1 Try.underlying22 hi hz0 hz1 hz2 rfl (by decide) _ _ _ rfl HO1.out.rr _ body.length (body.map byteV) rfl (Src.slice _ Try.underlying22 (by simp) HA.out) ?c1 ?c2 ?c3 ?c4 ?_; (case c1 => (intro u hu; obtain ⟨x, _, rfl⟩ := List.mem_map.1 hu; rfl)); (case c2 => (unfold maxLen; omega)); (case c3 => omega); (case c4 => (have := HO1.out.size; omega)); intro rv2 w2 hO2 hG2 hl2; have ho2 := HO1.out.appR (body := body) (by rw [List.map_append, List.length_append]; exact hO2) hG2 hl2 (fun k hk => by injection hk with hk; rw [← hk]; exact HB1.out.lt); have hb2 := HB1.out.grown hG2 (nb_some HO1.out.qr); have f5 := hb2.frozen 5; have c4 := hb2.cell 4; have c5 := hb2.cell 5; simp only [rdC, List.getElem?_toArray, List.getElem?_cons_zero, List.getElem?_cons_succ] at c4 c5; have hb3 := hb2.set_ 5 (.bool true); have ho3 := ho2.skip (grow_set w.heap.size 5 (.bool true)) (fun k hk => by injection hk with hk; omega); obtain ⟨rA2, rc2, rfl, -⟩ := hO2.rd; have HB3 := Lib.hid hb3; have HO3 := Lib.hid ho3;  clear hO2 hG2 hl2 hb2 ho2 hb3 ho3))
            go_roundg f
            case rel => exact ⟨adv s 2 body at', _, _, vs, rfl, rfl, rfl, hok2, hgf, by simpa [Hid, rdC, adv] using HB3.out, by simpa [Hid, adv] using HO3.out, hrun⟩
            case measure => omega
          ·
            go_wp2_with (at_builtin; (refine wpList_append _ rfl (.tmp 53) (.tmp 54) 22 22 rfl w.heap.size 5 i0 (.int .u8 0) 1 1 Try.underlying22 hi hz0 hz1 hz2 rfl (by decide) _ _ _ rfl HO1.out.rr _ body.length (body.map byteV) rfl (Src.slice _ Try.underlying22 (by simp) HA.out) ?c1 ?c2 ?c3 ?c4 ?_; (case c1 => (intro u hu; obtain ⟨x, _, rfl⟩ := List.mem_map.1 hu; rfl)); (case c2 => (unfold maxLen; omega)); (case c3 => omega); (case c4 => (have := HO1.out.size; omega)); intro rv2 w2 hO2 hG2 hl2; have ho2 := HO1.out.appR (body := body) (by rw [List.map_append, List.length_append]; exact hO2) hG2 hl2 (fun k hk => by injection hk with hk; rw [← hk]; exact HB1.out.lt); have hb2 := HB1.out.grown hG2 (nb_some HO1.out.qr); have f5 := hb2.frozen 5; have c4 := hb2.cell 4; have c5 := hb2.cell 5; simp only [rdC, List.getElem?_toArray, List.getElem?_cons_zero, List.getElem?_cons_succ] at c4 c5; have hb3 := hb2.set_ 5 (.bool true); have ho3 := ho2.skip (grow_set w.heap.size 5 (.bool true)) (fun k hk => by injection hk with hk; omega); obtain ⟨rA2, rc2, rfl, -⟩ := hO2.rd; have HB3 := Lib.hid hb3; have HO3 := Lib.hid ho3;  clear hO2 hG2 hl2 hb2 ho2 hb3 ho3))
            go_roundg f
            case rel => exact ⟨adv s 3 body at', _, _, vs, rfl, rfl, rfl, hok2, hgf, by simpa [Hid, rdC, adv] using HB3.out, by simpa [Hid, adv] using HO3.out, hrun⟩
            case measure => omega
          ·
            go_wp2_with (at_builtin; first | (refine wpList_append _ rfl (.tmp 53) (.tmp 54) 22 22 rfl w.heap.size 5 i0 (.int .u8 0) 1 1 Try.underlying22 hi hz0 hz1 hz2 rfl (by decide) _ _ _ rfl HO1.out.rr _ body.length (body.map byteV) rfl (Src.slice _ Try.underlying22 (by simp) HA.out) ?c1 ?c2 ?c3 ?c4 ?_; (case c1 => (intro u hu; obtain ⟨x, _, rfl⟩ := List.mem_map.1 hu; rfl)); (case c2 => (unfold maxLen; omega)); (case c3 => omega); (case c4 => (have := HO1.out.size; omega)); intro rv2 w2 hO2 hG2 hl2; have ho2 := HO1.out.appR (body := body) (by rw [List.map_append, List.length_append]; exact hO2) hG2 hl2 (fun k hk => by injection hk with hk; rw [← hk]; exact HB1.out.lt); have hb2 := HB1.out.grown hG2 (nb_some HO1.out.qr); have f5 := hb2.frozen 5; have c4 := hb2.cell 4; have c5 := hb2.cell 5; simp only [rdC, List.getElem?_toArray, List.getElem?_cons_zero, List.getElem?_cons_succ] at c4 c5; have hb3 := hb2.set_ 5 (.bool false); have ho3 := ho2.skip (grow_set w.heap.size 5 (.bool false)) (fun k hk => by injection hk with hk; omega); obtain ⟨rA2, rc2, rfl, -⟩ := hO2.rd; have HB3 := Lib.hid hb3; have HO3 := Lib.hid ho3; have ho4 := ho3.move ((Below.refl _ _).alloc (Nat.le_refl _) (.cells #[.slice rA2 (s.now.length + body.length) rc2] 22)); have HO4 := Lib.hid ho4; have hsz2 : (w2.setCell ⟨w.heap.size, 5, none⟩ (.bool false)).heap.size = w2.heap.size := (by simp); have hrd := Rd.new (w2.setCell ⟨w.heap.size, 5, none⟩ (.bool false)) #[.slice rA2 (s.now.length + body.length) rc2] 22; rw [hsz2] at hrd; have HRD := Lib.hid hrd; clear ho4 hsz2 hrd; clear hO2 hG2 hl2 hb2 ho2 hb3 ho3) | (refine wpList_append _ rfl (.tmp 70) (.tmp 72) 24 24 rfl w.heap.size 22 i1 (.slice none 0 0) 1 24 Try.underlying24 hj hy0 hy1 hy2 rfl (by decide) _ _ _ rfl HO4.out.oo _ 1 _ rfl (Src.slice _ Try.underlying24 rfl HRD.out) ?c1 ?c2 ?c3 ?c4 ?_; (case c1 => simp [Value.oneCell']); (case c2 => (unfold maxLen; omega)); (case c3 => omega); (case c4 => (have := HO4.out.size; omega)); intro ov5 w5 hO5 hG5 hl5; have hb5 := (HB3.out.alloc (.cells #[.slice rA2 (s.now.length + body.length) rc2] 22)).grown hG5 (nb_some HO4.out.qo); have HB5 := Lib.hid hb5; have HO5 := Lib.hid hO5; have HG5 := Lib.hid hG5; have HL5 := Lib.hid hl5; have c4 := hb5.cell 4; simp only [rdC, List.getElem?_toArray, List.getElem?_cons_zero, List.getElem?_cons_succ, List.setIfInBounds_toArray, List.set_cons_succ, List.set_cons_zero] at c4; clear hO5 hG5 hl5 hb5))
            go_quiet (fail)
            go_wp2_with fail
            have ho4 : OutS w ((w2.setCell ⟨w.heap.size, 5, none⟩ (.bool false)).alloc (.cells #[.slice rA2 (s.now.length + body.length) rc2] 22)) w.heap.size (some w.heap.size) s.out (s.now ++ body) (.slice oA vs.length oc) (.slice rA2 (s.now ++ body).length rc2) vs := by rw [List.length_append]; exact HO4.out
            have ho5 := ho4.fin (v2 := ov5) (w1 := w5) (by rw [List.length_append, List.length_append]; exact HO5.out) HG5.out HL5.out (fun k hk => by injection hk with hk; rw [← hk]; exact (HB3.out.alloc _).lt)
            have hbd := below_drewN (Below.refl w5.heap.size w5) nq
            have ho6 := ho5.move hbd
            have hb6 := HB5.out.below hbd HB5.out.lt
            go_roundg f
            case rel => exact ⟨adv s 4 body at', _, _, _, rfl, rfl, rfl, hok2, hgf, by simpa [Hid, rdC, adv] using hb6, by simpa [Hid, adv] using ho6, hrun⟩
            case measure => omega
    · go_wp2_with fail
      go_loopg [8, 9, 10, 11, 12, 13] (l.length + 1) (fun gh s8 s9 s10 _ _ _ wr => ∃ (s : Ws) (ov rv : Value) (vs : List Value), s8 = ov ∧ s9 = rv ∧ s10 = .int .i64 (s.place : Nat) ∧ Wok l s ∧ l.length + 1 ≤ gh + s.pos ∧ Hid (Blk wr w.heap.size 40 (rdC (.slice (some ⟨bb, off, none⟩) l.length cap) log true s.pos s.g)) ∧ Hid (OutS w wr w.heap.size (some w.heap.size) s.out s.now ov rv vs) ∧ Hid (run l log true (l.length + 1) ⟨0, false, [], [], 0⟩ = run l log true gh s))
      case atStart =>
        refine ⟨⟨0, false, [], [], 0⟩, _, _, [], rfl, rfl, rfl, ⟨Nat.zero_le _, Nat.le_refl _, Nat.le_refl _⟩, Nat.le_refl _, ?_, ?_, rfl⟩
        · exact Blk.new w _ _
        · exact OutS.start ((Below.refl _ w).alloc (Nat.le_refl _) _) (by simp) (Nat.le_refl _)
      case round =>
        obtain ⟨s, ov, rv, vs, rfl, rfl, rfl, hok, hf, HB, HO, HR⟩ := hrel
        obtain ⟨rA, rc, rfl, -⟩ := HO.out.rr.rd
        obtain ⟨oA, oc, rfl, -⟩ := HO.out.oo.rd
        obtain ⟨f, rfl⟩ : ∃ f, gk = f + 1 := ⟨gk - 1, by have := hok.1; omega⟩
        have hN := wNext_any w.heap.size bb off cap s.pos log true s.g l wr HB.out (HBS.out.keep HO.out.below |>.more HO.out.size) (by omega) hcap hq hok.1
        have HN := Lib.hid hN
        clear hN
        have HOK := Lib.hid hok
        clear hok
        go_wp2_with fail
        refine HN.out.mono ?_
        intro e w1 hP
        obtain ⟨hg, hm⟩ := hP
        have HO1 := Lib.hid (HO.out.skip hg (fun k hk => by injection hk with hk; omega))
        clear HN hg
        rcases hn : nextB l log true s.pos s.g with how | ⟨typ, body, at'⟩
        · rw [hn] at hm
          dsimp only at hm
          subst hm
          have hs := nextB_stop hn
          have hne : (how != -1) = true := by rw [bne_iff_ne]; omega
          have hrun := HR.out
          rw [run_stop hn] at hrun
          have HRUN := Lib.hid hrun
          clear hrun hn hs
          go_wp2_with fail
          go_ret3
          rw [HRUN.out]
          exact ⟨_, vs, rfl, HO1.out.oo, HO1.out.els, HO1.out.below⟩
        · rw [hn] at hm
          obtain ⟨A, c, rfl, hA, hB⟩ := hm
          obtain ⟨hok2, hat1, hat2⟩ := HOK.out.adv hn
          obtain ⟨-, -, hbl, ht1, ht4⟩ := nextB_frag HOK.out.1 hn
          have hrun := HR.out
          rw [run_frag hn] at hrun
          have hnow : s.now.length + body.length ≤ 1073741824 := by have := HOK.out.2.1; have := HOK.out.1; omega
          have hvl : vs.length ≤ 1073741824 := by have := HOK.out.2.1; have := HOK.out.1; have := HO1.out.els.len; omega
          have hgf : l.length + 1 ≤ f + at' := by omega
          have HA := Lib.hid hA
          have HB1 := Lib.hid hB
          clear hA hB hn hbl hat1 hat2 HOK HR
          rcases (show typ = 1 ∨ typ = 2 ∨ typ = 3 ∨ typ = 4 by omega) with rfl | rfl | rfl | rfl
          ·
            go_wp2_with (at_builtin; first | (refine wpList_append _ rfl (.tmp 53) (.tmp 54) 22 22 rfl w.heap.size 5 i0 (.int .u8 0) 1 1 Try.underlying22 hi hz0 hz1 hz2 rfl (by decide) _ _ _ rfl HO1.out.rr _ body.length (body.map byteV) rfl (Src.slice _ Try.underlying22 (by simp) HA.out) ?c1 ?c2 ?c3 ?c4 ?_; (case c1 => (intro u hu; obtain ⟨x, _, rfl⟩ := List.mem_map.1 hu; rfl)); (case c2 => (unfold maxLen; omega)); (case c3 => omega); (case c4 => (have := HO1.out.size; omega)); intro rv2 w2 hO2 hG2 hl2; have ho2 := HO1.out.appR (body := body) (by rw [List.map_append, List.length_append]; exact hO2) hG2 hl2 (fun k hk => by injection hk with hk; rw [← hk]; exact HB1.out.lt); have hb2 := HB1.out.grown hG2 (nb_some HO1.out.qr); have f5 := hb2.frozen 5; have c4 := hb2.cell 4; have c5 := hb2.cell 5; simp only [rdC, List.getElem?_toArray, List.getElem?_cons_zero, List.getElem?_cons_succ] at c4 c5; have hb3 := hb2.set_ 5 (.bool false); have ho3 := ho2.skip (grow_set w.heap.size 5 (.bool false)) (fun k hk => by injection hk with hk; omega); obtain ⟨rA2, rc2, rfl, -⟩ := hO2.rd; have HB3 := Lib.hid hb3; have HO3 := Lib.hid ho3; have ho4 := ho3.move ((Below.refl _ _).alloc (Nat.le_refl _) (.cells #[.slice rA2 (s.now.length + body.length) rc2] 22)); have HO4 := Lib.hid ho4; have hsz2 : (w2.setCell ⟨w.heap.size, 5, none⟩ (.bool false)).heap.size = w2.heap.size := (by simp); have hrd := Rd.new (w2.setCell ⟨w.heap.size, 5, none⟩ (.bool false)) #[.slice rA2 (s.now.length + body.length) rc2] 22; rw [hsz2] at hrd; have HRD := Lib.hid hrd; clear ho4 hsz2 hrd; clear hO2 hG2 hl2 hb2 ho2 hb3 ho3) | (refine wpList_append _ rfl (.tmp 70) (.tmp 72) 24 24 rfl w.heap.size 22 i1 (.slice none 0 0) 1 24 Try.underlying24 hj hy0 hy1 hy2 rfl (by decide) _ _ _ rfl HO4.out.oo _ 1 _ rfl (Src.slice _ Try.underlying24 rfl HRD.out) ?c1 ?c2 ?c3 ?c4 ?_; (case c1 => simp [Value.oneCell']); (case c2 => (unfold maxLen; omega)); (case c3 => omega); (case c4 => (have := HO4.out.size; omega)); intro ov5 w5 hO5 hG5 hl5; have hb5 := (HB3.out.alloc (.cells #[.slice rA2 (s.now.length + body.length) rc2] 22)).grown hG5 (nb_some HO4.out.qo); have HB5 := Lib.hid hb5; have HO5 := Lib.hid hO5; have HG5 := Lib.hid hG5; have HL5 := Lib.hid hl5; have c4 := hb5.cell 4; simp only [rdC, List.getElem?_toArray, List.getElem?_cons_zero, List.getElem?_cons_succ, List.setIfInBounds_toArray, List.set_cons_succ, List.set_cons_zero] at c4; clear hO5 hG5 hl5 hb5))
            go_quiet (fail)
            go_wp2_with fail
            have ho4 : OutS w ((w2.setCell ⟨w.heap.size, 5, none⟩ (.bool false)).alloc (.cells #[.slice rA2 (s.now.length + body.length) rc2] 22)) w.heap.size (some w.heap.size) s.out (s.now ++ body) (.slice oA vs.length oc) (.slice rA2 (s.now ++ body).length rc2) vs := by rw [List.length_append]; exact HO4.out
            have ho5 := ho4.fin (v2 := ov5) (w1 := w5) (by rw [List.length_append, List.length_append]; exact HO5.out) HG5.out HL5.out (fun k hk => by injection hk with hk; rw [← hk]; exact (HB3.out.alloc _).lt)
            have hbd := below_drewN (Below.refl w5.heap.size w5) nq
            have ho6 := ho5.move hbd
            have hb6 := HB5.out.below hbd HB5.out.lt
            go_roundg f
            case rel => exact ⟨adv s 1 body at', _, _, _, rfl, rfl, rfl, hok2, hgf, by simpa [Hid, rdC, adv] using hb6, by simpa [Hid, adv] using ho6, hrun⟩
            case measure => omega
          ·
            go_wp2_with (at_builtin; (refine wpList_append _ rfl (.tmp 53) (.tmp 54) 22 22 rfl w.heap.size 5 i0 (.int .u8 0) 1 1 Try.underlying22 hi hz0 hz1 hz2 rfl (by decide) _ _ _ rfl HO1.out.rr _ body.length (body.map byteV) rfl (Src.slice _ Try.underlying22 (by simp) HA.out) ?c1 ?c2 ?c3 ?c4 ?_; (case c1 => (intro u hu; obtain ⟨x, _, rfl⟩ := List.mem_map.1 hu; rfl)); (case c2 => (unfold maxLen; omega)); (case c3 => omega); (case c4 => (have := HO1.out.size; omega)); intro rv2 w2 hO2 hG2 hl2; have ho2 := HO1.out.appR (body := body) (by rw [List.map_append, List.length_append]; exact hO2) hG2 hl2 (fun k hk => by injection hk with hk; rw [← hk]; exact HB1.out.lt); have hb2 := HB1.out.grown hG2 (nb_some HO1.out.qr); have f5 := hb2.frozen 5; have c4 := hb2.cell 4; have c5 := hb2.cell 5; simp only [rdC, List.getElem?_toArray, List.getElem?_cons_zero, List.getElem?_cons_succ] at c4 c5; have hb3 := hb2.set_ 5 (.bool true); have ho3 := ho2.skip (grow_set w.heap.size 5 (.bool true)) (fun k hk => by injection hk with hk; omega); obtain ⟨rA2, rc2, rfl, -⟩ := hO2.rd; have HB3 := Lib.hid hb3; have HO3 := Lib.hid ho3;  clear hO2 hG2 hl2 hb2 ho2 hb3 ho3))
            go_roundg f
            case rel => exact ⟨adv s 2 body at', _, _, vs, rfl, rfl, rfl, hok2, hgf, by simpa [Hid, rdC, adv] using HB3.out, by simpa [Hid, adv] using HO3.out, hrun⟩
            case measure => omega
          ·
            go_wp2_with (at_builtin; (refine wpList_append _ rfl (.tmp 53) (.tmp 54) 22 22 rfl w.heap.size 5 i0 (.int .u8 0) 1 1 Try.underlying22 hi hz0 hz1 hz2 rfl (by decide) _ _ _ rfl HO1.out.rr _ body.length (body.map byteV) rfl (Src.slice _ Try.underlying22 (by simp) HA.out) ?c1 ?c2 ?c3 ?c4 ?_; (case c1 => (intro u hu; obtain ⟨x, _, rfl⟩ := List.mem_map.1 hu; rfl)); (case c2 => (unfold maxLen; omega)); (case c3 => omega); (case c4 => (have := HO1.out.size; omega)); intro rv2 w2 hO2 hG2 hl2; have ho2 := HO1.out.appR (body := body) (by rw [List.map_append, List.length_append]; exact hO2) hG2 hl2 (fun k hk => by injection hk with hk; rw [← hk]; exact HB1.out.lt); have hb2 := HB1.out.grown hG2 (nb_some HO1.out.qr); have f5 := hb2.frozen 5; have c4 := hb2.cell 4; have c5 := hb2.cell 5; simp only [rdC, List.getElem?_toArray, List.getElem?_cons_zero, List.getElem?_cons_succ] at c4 c5; have hb3 := hb2.set_ 5 (.bool true); have ho3 := ho2.skip (grow_set w.heap.size 5 (.bool true)) (fun k hk => by injection hk with hk; omega); obtain ⟨rA2, rc2, rfl, -⟩ := hO2.rd; have HB3 := Lib.hid hb3; have HO3 := Lib.hid ho3;  clear hO2 hG2 hl2 hb2 ho2 hb3 ho3))
            go_roundg f
            case rel => exact ⟨adv s 3 body at', _, _, vs, rfl, rfl, rfl, hok2, hgf, by simpa [Hid, rdC, adv] using HB3.out, by simpa [Hid, adv] using HO3.out, hrun⟩
            case measure => omega
          ·
            go_wp2_with (at_builtin; first | (refine wpList_append _ rfl (.tmp 53) (.tmp 54) 22 22 rfl w.heap.size 5 i0 (.int .u8 0) 1 1 Try.underlying22 hi hz0 hz1 hz2 rfl (by decide) _ _ _ rfl HO1.out.rr _ body.length (body.map byteV) rfl (Src.slice _ Try.underlying22 (by simp) HA.out) ?c1 ?c2 ?c3 ?c4 ?_; (case c1 => (intro u hu; obtain ⟨x, _, rfl⟩ := List.mem_map.1 hu; rfl)); (case c2 => (unfold maxLen; omega)); (case c3 => omega); (case c4 => (have := HO1.out.size; omega)); intro rv2 w2 hO2 hG2 hl2; have ho2 := HO1.out.appR (body := body) (by rw [List.map_append, List.length_append]; exact hO2) hG2 hl2 (fun k hk => by injection hk with hk; rw [← hk]; exact HB1.out.lt); have hb2 := HB1.out.grown hG2 (nb_some HO1.out.qr); have f5 := hb2.frozen 5; have c4 := hb2.cell 4; have c5 := hb2.cell 5; simp only [rdC, List.getElem?_toArray, List.getElem?_cons_zero, List.getElem?_cons_succ] at c4 c5; have hb3 := hb2.set_ 5 (.bool false); have ho3 := ho2.skip (grow_set w.heap.size 5 (.bool false)) (fun k hk => by injection hk with hk; omega); obtain ⟨rA2, rc2, rfl, -⟩ := hO2.rd; have HB3 := Lib.hid hb3; have HO3 := Lib.hid ho3; have ho4 := ho3.move ((Below.refl _ _).alloc (Nat.le_refl _) (.cells #[.slice rA2 (s.now.length + body.length) rc2] 22)); have HO4 := Lib.hid ho4; have hsz2 : (w2.setCell ⟨w.heap.size, 5, none⟩ (.bool false)).heap.size = w2.heap.size := (by simp); have hrd := Rd.new (w2.setCell ⟨w.heap.size, 5, none⟩ (.bool false)) #[.slice rA2 (s.now.length + body.length) rc2] 22; rw [hsz2] at hrd; have HRD := Lib.hid hrd; clear ho4 hsz2 hrd; clear hO2 hG2 hl2 hb2 ho2 hb3 ho3) | (refine wpList_append _ rfl (.tmp 70) (.tmp 72) 24 24 rfl w.heap.size 22 i1 (.slice none 0 0) 1 24 Try.underlying24 hj hy0 hy1 hy2 rfl (by decide) _ _ _ rfl HO4.out.oo _ 1 _ rfl (Src.slice _ Try.underlying24 rfl HRD.out) ?c1 ?c2 ?c3 ?c4 ?_; (case c1 => simp [Value.oneCell']); (case c2 => (unfold maxLen; omega)); (case c3 => omega); (case c4 => (have := HO4.out.size; omega)); intro ov5 w5 hO5 hG5 hl5; have hb5 := (HB3.out.alloc (.cells #[.slice rA2 (s.now.length + body.length) rc2] 22)).grown hG5 (nb_some HO4.out.qo); have HB5 := Lib.hid hb5; have HO5 := Lib.hid hO5; have HG5 := Lib.hid hG5; have HL5 := Lib.hid hl5; have c4 := hb5.cell 4; simp only [rdC, List.getElem?_toArray, List.getElem?_cons_zero, List.getElem?_cons_succ, List.setIfInBounds_toArray, List.set_cons_succ, List.set_cons_zero] at c4; clear hO5 hG5 hl5 hb5))
            go_quiet (fail)
            go_wp2_with fail
            have ho4 : OutS w ((w2.setCell ⟨w.heap.size, 5, none⟩ (.bool false)).alloc (.cells #[.slice rA2 (s.now.length + body.length) rc2] 22)) w.heap.size (some w.heap.size) s.out (s.now ++ body) (.slice oA vs.length oc) (.slice rA2 (s.now ++ body).length rc2) vs := by rw [List.length_append]; exact HO4.out
            have ho5 := ho4.fin (v2 := ov5) (w1 := w5) (by rw [List.length_append, List.length_append]; exact HO5.out) HG5.out HL5.out (fun k hk => by injection hk with hk; rw [← hk]; exact (HB3.out.alloc _).lt)
            have hbd := below_drewN (Below.refl w5.heap.size w5) nq
            have ho6 := ho5.move hbd
            have hb6 := HB5.out.below hbd HB5.out.lt
            go_roundg f
            case rel => exact ⟨adv s 4 body at', _, _, _, rfl, rfl, rfl, hok2, hgf, by simpa [Hid, rdC, adv] using hb6, by simpa [Hid, adv] using ho6, hrun⟩
            case measure => omega
end Go.Proofs.Ytlcnachblcacjaa
