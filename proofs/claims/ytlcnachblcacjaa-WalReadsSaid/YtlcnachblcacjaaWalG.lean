/-
  The document's Read.
-/
import Derived.Test.YtlcnachblcacjaaWalF
import Derived.Test.YtlcnachblcacjaaWalE
import Derived.Deep.LoopGhost
import Derived.Deep.DeepCutAuto
namespace Go.Proofs.Ytlcnachblcacjaa
set_option linter.unusedSimpArgs false
set_option linter.unusedVariables false
open Go.RowKit Go.IntWalk

set_option maxHeartbeats 4000000 in
set_option maxRecDepth 100000 in
theorem rRead_some (bb off cap : Nat) (log : Int) (l : List UInt8) (w : World) (hcap : l.length ≤ cap) (hbs : Bs w w.heap.size (some ⟨bb, off, none⟩) l) (hbb : bb < w.heap.size) :
    Calls Try.prog 5 #[.slice (some ⟨bb, off, none⟩) l.length cap, .int .u32 log] w (ReadP w.heap.size w (readR l log)) := by
  obtain ⟨i0, hi, hz0, hz1, hz2⟩ := info_parts info_byte
  obtain ⟨i1, hj, hy0, hy1, hy2⟩ := info_parts info_bytes
  by_cases hbig : 1073741824 < l.length
  · have hr : readR l log = ([], 3, 0) := by unfold readR; rw [if_pos hbig]
    rw [hr]
    have hd : decide ((1073741824 : Int) < (l.length : Int)) = true := by simp; omega
    go_enter Try.func5, Try.ntmps5
    go_wp2
    go_ret3
    exact ⟨_, [], rfl, Own.nil _ _ _ _, trivial, Below.refl _ _⟩
  have hd : decide ((1073741824 : Int) < (l.length : Int)) = false := by simp; omega
  have hr : readR l log = run l log (recB l) (l.length + 1) ⟨0, false, [], [], 0⟩ := by unfold readR; rw [if_neg hbig]
  rw [hr]
  clear hr
  have HBS := Lib.hid hbs
  have HREC := Lib.hid (r5Rec_any (some ⟨bb, off, none⟩) cap l w.heap.size w (by omega) hbs)
  clear hbs
  generalize recB l = r at *
  have HHD := Lib.hid (fun w => r5Head_any r w)
  have hh := hdN_bd r
  have hbd : badI r = if r then 1 else 3 := rfl
  go_enter Try.func5, Try.ntmps5
  go_wp2_with fail
  refine HREC.out.mono ?_
  rintro e w1 ⟨rfl, rfl⟩
  go_wp2_with fail
  refine (HHD.out _).mono ?_
  rintro e w2 ⟨rfl, rfl⟩
  go_upto_if 27 with fail
  go_cut [10] (fun s10 wx => s10 = .int .i64 (badI r) ∧ wx = w1.alloc (.cells #[] 22))
  case first =>
    cases r
    · go_wp2_with fail
      go_meet
      exact ⟨rfl, rfl⟩
    · go_wp2_with fail
      go_meet
      exact ⟨rfl, rfl⟩
  case rest =>
    obtain ⟨rfl, rfl⟩ := hcut
    clear hbd
    have hO0 := ((OutS.start (q := none) (Below.refl w1.heap.size w1) (Nat.le_refl _) (Nat.le_refl _)).freshO (fun k hk => by cases hk)).fresh (fun k hk => by cases hk)
    have HO0 := Lib.hid hO0
    clear hO0
    go_wp2_with fail
    go_loopg [8, 11, 12, 13, 14] (l.length + 1) (fun gh s8 s11 s12 s13 s14 wr => ∃ (f : Nat) (s : Ws) (ov rv : Value) (vs : List Value), s8 = ov ∧ s11 = .int .i64 (s.pos : Nat) ∧ s12 = .int .i64 (s.place : Nat) ∧ s13 = .bool s.g ∧ s14 = rv ∧ gh = l.length + 1 - s.pos ∧ Wok l s ∧ l.length + 1 ≤ f + s.pos ∧ Hid (OutS w1 wr w1.heap.size none s.out s.now ov rv vs) ∧ Hid (run l log r (l.length + 1) ⟨0, false, [], [], 0⟩ = run l log r f s))
    case atStart => exact ⟨l.length + 1, ⟨0, false, [], [], 0⟩, _, _, [], rfl, rfl, rfl, rfl, rfl, rfl, ⟨Nat.zero_le _, Nat.le_refl _, Nat.le_refl _⟩, Nat.le_refl _, by simpa [Hid] using HO0.out, rfl⟩
    case round =>
      clear HO0 HREC HHD
      obtain ⟨f, s, ov, rv, vs, rfl, rfl, rfl, rfl, rfl, rfl, hok, hf, HO, HR⟩ := hrel
      obtain ⟨pos, g, now, out, place⟩ := s
      dsimp only at hf HO
      obtain ⟨rA, rc, rfl, -⟩ := HO.out.rr.rd
      obtain ⟨oA, oc, rfl, -⟩ := HO.out.oo.rd
      have hat : pos ≤ l.length := hok.1
      obtain ⟨f, rfl⟩ : ∃ f', f = f' + 1 := ⟨f - 1, by omega⟩
      have hrd := roomN_bd pos
      have hre : (4096 : Int) - (pos : Int) % 4096 = (roomN pos : Int) := by unfold roomN; omega
      have hcut := Rd.cutIf (HBS.out.keep HO.out.below) hcap hat
      obtain ⟨o2, ho2⟩ : ∃ o2 : Nat, (if cap = pos then (some ⟨bb, off, none⟩ : Option Addr) else some ⟨bb, off + pos, none⟩) = some ⟨bb, o2, none⟩ := by
        split
        · exact ⟨_, rfl⟩
        · exact ⟨_, rfl⟩
      rw [ho2] at hcut
      have HC := Lib.hid hcut
      have HOK := Lib.hid hok
      have hZ := rZero_any (some ⟨bb, o2, none⟩) (cap - pos) (l.drop pos) w1.heap.size wr (by rw [List.length_drop]; omega) hcut
      rw [List.length_drop] at hZ
      have HZ := Lib.hid hZ
      clear hcut hok hZ
      have hai : (0 : Int) ≤ (pos : Int) ∧ (pos : Int) ≤ (l.length : Int) ∧ (l.length : Int) ≤ (cap : Int) := by omega
      by_cases hroom : roomN pos < hdN r
      · by_cases hle : l.length - pos ≤ roomN pos
        · have hd2 : decide ((l.length : Int) - (pos : Int) ≤ (roomN pos : Int)) = true := by simp; omega
          rcases hz : zeroL (l.drop pos) with _ | _
          · rw [hz] at HZ
            by_cases hlt : l.length - pos < roomN pos
            · have hd3 : decide ((l.length : Int) - (pos : Int) < (roomN pos : Int)) = true := by simp; omega
              have hn := nextB_torn (log := log) (g := g) hroom (by rw [List.length_drop]; exact hlt) hz
              have hrun := HR.out
              rw [run_stop (s := ⟨pos, g, now, out, place⟩) (f := f) hn] at hrun
              have HRUN := Lib.hid hrun
              clear hrun hn hz HR
              generalize roomN pos = room at *
              go_wp2_with fail
              refine HZ.out.mono ?_
              rintro e w3 ⟨rfl, rfl⟩
              go_wp2_with fail
              go_ret3
              rw [HRUN.out]
              exact ⟨_, vs, rfl, HO.out.oo, HO.out.els, HO.out.below⟩
            · have hd3 : decide ((l.length : Int) - (pos : Int) < (roomN pos : Int)) = false := by simp; omega
              have hrun := HR.out
              rw [run_skip (s := ⟨pos, g, now, out, place⟩) (f := f + 1) hroom (by show roomN pos ≤ (l.drop pos).length; rw [List.length_drop]; omega)] at hrun
              have HRUN := Lib.hid hrun
              clear hrun hz HR
              generalize roomN pos = room at *
              go_wp2_with fail
              refine HZ.out.mono ?_
              rintro e w3 ⟨rfl, rfl⟩
              go_wp2_with fail
              go_roundg (l.length + 1 - (pos + room))
              case rel => exact ⟨f + 1, ⟨pos + room, g, now, out, place⟩, _, _, vs, rfl, by go_num, rfl, rfl, rfl, rfl, ⟨by show pos + room ≤ l.length; omega, by have := HOK.out.2.1; dsimp only at this ⊢; omega, by have := HOK.out.2.2; dsimp only at this ⊢; omega⟩, by dsimp only; omega, HO.out, HRUN.out⟩
              case measure => omega
          · rw [hz] at HZ
            have hn := nextB_end (log := log) (g := g) hroom (by rw [List.length_drop]; exact hle) hz
            have hrun := HR.out
            rw [run_stop (s := ⟨pos, g, now, out, place⟩) (f := f) hn] at hrun
            have HRUN := Lib.hid hrun
            clear hrun hn hz HR
            generalize roomN pos = room at *
            go_wp2_with fail
            refine HZ.out.mono ?_
            rintro e w3 ⟨rfl, rfl⟩
            go_wp2_with fail
            refine (r5End_any g _).mono ?_
            rintro e w4 ⟨rfl, rfl⟩
            go_wp2_with fail
            go_ret3
            rw [HRUN.out]
            exact ⟨_, vs, rfl, HO.out.oo, HO.out.els, HO.out.below⟩
        · have hd2 : decide ((l.length : Int) - (pos : Int) ≤ (roomN pos : Int)) = false := by simp; omega
          have hrun := HR.out
          rw [run_skip (s := ⟨pos, g, now, out, place⟩) (f := f + 1) hroom (by show roomN pos ≤ (l.drop pos).length; rw [List.length_drop]; omega)] at hrun
          have HRUN := Lib.hid hrun
          clear hrun HR HZ
          generalize roomN pos = room at *
          go_wp2_with fail
          go_roundg (l.length + 1 - (pos + room))
          case rel => exact ⟨f + 1, ⟨pos + room, g, now, out, place⟩, _, _, vs, rfl, by go_num, rfl, rfl, rfl, rfl, ⟨by show pos + room ≤ l.length; omega, by have := HOK.out.2.1; dsimp only at this ⊢; omega, by have := HOK.out.2.2; dsimp only at this ⊢; omega⟩, by dsimp only; omega, HO.out, HRUN.out⟩
          case measure => omega
      · have hF := r5Frag_any bb o2 (cap - pos) (roomN pos) pos log r g (l.drop pos) wr (HC.out.more HO.out.size) (by rw [List.length_drop]; omega) (by rw [List.length_drop]; omega) hrd.2
        rw [← nextB_here hroom, List.length_drop] at hF
        have HF := Lib.hid hF
        have hat' := fun typ body at' (h : nextB l log r pos g = .frag typ body at') => atB_at (by rw [nextB_here hroom] at h; exact h)
        have HAT := Lib.hid hat'
        clear hF hat' HZ HC
        generalize roomN pos = room at *
        go_wp2_with fail
        refine HF.out.mono ?_
        intro e w3 hP
        obtain ⟨hb3, hm⟩ := hP
        have HO1 := Lib.hid (HO.out.move hb3)
        clear HF hb3
        rcases hn : nextB l log r pos g with how | ⟨typ, body, at'⟩
        · rw [hn] at hm
          dsimp only at hm
          subst hm
          have hrun := HR.out
          rw [run_stop (s := ⟨pos, g, now, out, place⟩) (f := f) hn] at hrun
          have HRUN := Lib.hid hrun
          clear hrun hn HR
          by_cases h0 : how = 0
          · subst h0
            go_wp2_with fail
            go_ret3
            rw [HRUN.out]
            exact ⟨_, vs, rfl, HO1.out.oo, HO1.out.els, HO1.out.below⟩
          · have hb0 : (how != 0) = true := by simpa using h0
            clear h0
            go_wp2_with fail
            go_ret3
            rw [HRUN.out]
            exact ⟨_, vs, rfl, HO1.out.oo, HO1.out.els, HO1.out.below⟩
        · rw [hn] at hm
          obtain ⟨A, c, rfl, hA⟩ := hm
          obtain ⟨hok2, hat1, hat2⟩ := HOK.out.adv hn
          obtain ⟨-, -, hbl, ht1, ht4⟩ := nextB_frag hat hn
          have hrun := HR.out
          rw [run_frag (s := ⟨pos, g, now, out, place⟩) (f := f) hn] at hrun
          have hpos := HAT.out _ _ _ hn
          have hnow : now.length + body.length ≤ 1073741824 := by have := HOK.out.2.1; have := HOK.out.1; dsimp only at *; omega
          have hvl : vs.length ≤ 1073741824 := by have := HOK.out.2.1; have := HOK.out.1; have := HO1.out.els.len; dsimp only at *; omega
          have hgf : l.length + 1 ≤ f + at' := by dsimp only at *; omega
          have hmea : l.length + 1 - at' < l.length + 1 - pos := by dsimp only at *; omega
          have hcast : (pos : Int) + (hdN r : Int) + (body.length : Int) = (at' : Int) := by omega
          have hatb : at' ≤ 1073741824 := by omega
          have HA := Lib.hid hA
          clear hA hn hbl hat1 HOK HR HAT hpos
          rcases (show typ = 1 ∨ typ = 2 ∨ typ = 3 ∨ typ = 4 by omega) with rfl | rfl | rfl | rfl
          ·
            go_wp2_with (at_builtin; first | (refine wpList_append _ rfl (.tmp 89) (.tmp 90) 22 22 rfl w1.heap.size 5 i0 (.int .u8 0) 1 1 Try.underlying22 hi hz0 hz1 hz2 rfl (by decide) _ _ _ rfl HO1.out.rr _ body.length (body.map byteV) rfl (Src.slice _ Try.underlying22 (by simp) HA.out) ?c1 ?c2 ?c3 ?c4 ?_; (case c1 => (intro u hu; obtain ⟨x, _, rfl⟩ := List.mem_map.1 hu; rfl)); (case c2 => (unfold maxLen; omega)); (case c3 => omega); (case c4 => (have := HO1.out.size; omega)); intro rv2 w4 hO2 hG2 hl2; have ho2 := HO1.out.appR (body := body) (by rw [List.map_append, List.length_append]; exact hO2) hG2 hl2 (fun k hk => by cases hk); obtain ⟨rA2, rc2, rfl, -⟩ := hO2.rd; have HO3 := Lib.hid ho2; have ho4 := ho2.move ((Below.refl _ _).alloc (Nat.le_refl _) (.cells #[.slice rA2 (now.length + body.length) rc2] 22)); have HO4 := Lib.hid ho4; clear ho4; clear hO2 hG2 hl2 ho2) | (refine wpList_append _ rfl (.tmp 100) (.tmp 102) 24 24 rfl w1.heap.size 22 i1 (.slice none 0 0) 1 24 Try.underlying24 hj hy0 hy1 hy2 rfl (by decide) _ _ _ rfl HO4.out.oo _ 1 _ rfl (Src.slice _ Try.underlying24 rfl (Rd.new _ _ _)) ?c1 ?c2 ?c3 ?c4 ?_; (case c1 => simp [Value.oneCell']); (case c2 => (unfold maxLen; omega)); (case c3 => omega); (case c4 => (have := HO4.out.size; omega)); intro ov5 w5 hO5 hG5 hl5; have HO5 := Lib.hid hO5; have HG5 := Lib.hid hG5; have HL5 := Lib.hid hl5; clear hO5 hG5 hl5))
            have ho4 : OutS w1 (w4.alloc (.cells #[.slice rA2 (now.length + body.length) rc2] 22)) w1.heap.size none out (now ++ body) (.slice oA vs.length oc) (.slice rA2 (now ++ body).length rc2) vs := by rw [List.length_append]; exact HO4.out
            have ho5 := ho4.fin (v2 := ov5) (w1 := w5) (by rw [List.length_append, List.length_append]; exact HO5.out) HG5.out HL5.out (fun k hk => by cases hk)
            have ho6 := ho5.fresh (fun k hk => by cases hk)
            go_roundg (l.length + 1 - at')
            case rel => exact ⟨f, adv ⟨pos, g, now, out, place⟩ 1 body at', _, _, _, rfl, rfl, rfl, rfl, rfl, rfl, hok2, hgf, by simpa [Hid, adv] using ho6, hrun⟩
            case measure => exact hmea
          ·
            go_wp2_with (at_builtin; (refine wpList_append _ rfl (.tmp 89) (.tmp 90) 22 22 rfl w1.heap.size 5 i0 (.int .u8 0) 1 1 Try.underlying22 hi hz0 hz1 hz2 rfl (by decide) _ _ _ rfl HO1.out.rr _ body.length (body.map byteV) rfl (Src.slice _ Try.underlying22 (by simp) HA.out) ?c1 ?c2 ?c3 ?c4 ?_; (case c1 => (intro u hu; obtain ⟨x, _, rfl⟩ := List.mem_map.1 hu; rfl)); (case c2 => (unfold maxLen; omega)); (case c3 => omega); (case c4 => (have := HO1.out.size; omega)); intro rv2 w4 hO2 hG2 hl2; have ho2 := HO1.out.appR (body := body) (by rw [List.map_append, List.length_append]; exact hO2) hG2 hl2 (fun k hk => by cases hk); obtain ⟨rA2, rc2, rfl, -⟩ := hO2.rd; have HO3 := Lib.hid ho2;  clear hO2 hG2 hl2 ho2))
            go_roundg (l.length + 1 - at')
            case rel => exact ⟨f, adv ⟨pos, g, now, out, place⟩ 2 body at', _, _, vs, rfl, rfl, rfl, rfl, rfl, rfl, hok2, hgf, by simpa [Hid, adv] using HO3.out, hrun⟩
            case measure => exact hmea
          ·
            go_wp2_with (at_builtin; (refine wpList_append _ rfl (.tmp 89) (.tmp 90) 22 22 rfl w1.heap.size 5 i0 (.int .u8 0) 1 1 Try.underlying22 hi hz0 hz1 hz2 rfl (by decide) _ _ _ rfl HO1.out.rr _ body.length (body.map byteV) rfl (Src.slice _ Try.underlying22 (by simp) HA.out) ?c1 ?c2 ?c3 ?c4 ?_; (case c1 => (intro u hu; obtain ⟨x, _, rfl⟩ := List.mem_map.1 hu; rfl)); (case c2 => (unfold maxLen; omega)); (case c3 => omega); (case c4 => (have := HO1.out.size; omega)); intro rv2 w4 hO2 hG2 hl2; have ho2 := HO1.out.appR (body := body) (by rw [List.map_append, List.length_append]; exact hO2) hG2 hl2 (fun k hk => by cases hk); obtain ⟨rA2, rc2, rfl, -⟩ := hO2.rd; have HO3 := Lib.hid ho2;  clear hO2 hG2 hl2 ho2))
            go_roundg (l.length + 1 - at')
            case rel => exact ⟨f, adv ⟨pos, g, now, out, place⟩ 3 body at', _, _, vs, rfl, rfl, rfl, rfl, rfl, rfl, hok2, hgf, by simpa [Hid, adv] using HO3.out, hrun⟩
            case measure => exact hmea
          ·
            go_wp2_with (at_builtin; first | (refine wpList_append _ rfl (.tmp 89) (.tmp 90) 22 22 rfl w1.heap.size 5 i0 (.int .u8 0) 1 1 Try.underlying22 hi hz0 hz1 hz2 rfl (by decide) _ _ _ rfl HO1.out.rr _ body.length (body.map byteV) rfl (Src.slice _ Try.underlying22 (by simp) HA.out) ?c1 ?c2 ?c3 ?c4 ?_; (case c1 => (intro u hu; obtain ⟨x, _, rfl⟩ := List.mem_map.1 hu; rfl)); (case c2 => (unfold maxLen; omega)); (case c3 => omega); (case c4 => (have := HO1.out.size; omega)); intro rv2 w4 hO2 hG2 hl2; have ho2 := HO1.out.appR (body := body) (by rw [List.map_append, List.length_append]; exact hO2) hG2 hl2 (fun k hk => by cases hk); obtain ⟨rA2, rc2, rfl, -⟩ := hO2.rd; have HO3 := Lib.hid ho2; have ho4 := ho2.move ((Below.refl _ _).alloc (Nat.le_refl _) (.cells #[.slice rA2 (now.length + body.length) rc2] 22)); have HO4 := Lib.hid ho4; clear ho4; clear hO2 hG2 hl2 ho2) | (refine wpList_append _ rfl (.tmp 100) (.tmp 102) 24 24 rfl w1.heap.size 22 i1 (.slice none 0 0) 1 24 Try.underlying24 hj hy0 hy1 hy2 rfl (by decide) _ _ _ rfl HO4.out.oo _ 1 _ rfl (Src.slice _ Try.underlying24 rfl (Rd.new _ _ _)) ?c1 ?c2 ?c3 ?c4 ?_; (case c1 => simp [Value.oneCell']); (case c2 => (unfold maxLen; omega)); (case c3 => omega); (case c4 => (have := HO4.out.size; omega)); intro ov5 w5 hO5 hG5 hl5; have HO5 := Lib.hid hO5; have HG5 := Lib.hid hG5; have HL5 := Lib.hid hl5; clear hO5 hG5 hl5))
            have ho4 : OutS w1 (w4.alloc (.cells #[.slice rA2 (now.length + body.length) rc2] 22)) w1.heap.size none out (now ++ body) (.slice oA vs.length oc) (.slice rA2 (now ++ body).length rc2) vs := by rw [List.length_append]; exact HO4.out
            have ho5 := ho4.fin (v2 := ov5) (w1 := w5) (by rw [List.length_append, List.length_append]; exact HO5.out) HG5.out HL5.out (fun k hk => by cases hk)
            have ho6 := ho5.fresh (fun k hk => by cases hk)
            go_roundg (l.length + 1 - at')
            case rel => exact ⟨f, adv ⟨pos, g, now, out, place⟩ 4 body at', _, _, _, rfl, rfl, rfl, rfl, rfl, rfl, hok2, hgf, by simpa [Hid, adv] using ho6, hrun⟩
            case measure => exact hmea
end Go.Proofs.Ytlcnachblcacjaa
