/-
  The law BlockBytes, walked.
-/
import Derived.Test.YtkajgpcnodgpcaaBlkK
import Derived.Test.YtkajgpcnodgpcaaSame
import Derived.Laws.MakeOwn
namespace Go.Proofs.Ytkajgpcnodgpcaa
set_option linter.unusedSimpArgs false
set_option linter.unusedVariables false
open Go.RowKit Go.IntWalk

theorem info_entry : (Try.prog.info? 48).map (fun i => (i.zero, i.size, i.bytes)) = some (some (.agg #[.string ⟨#[]⟩, .int .u64 0, .int .i64 0, .string ⟨#[]⟩]), 4, 48) := by kernel_rfl
set_option maxHeartbeats 4000000 in
set_option maxRecDepth 100000 in
theorem blockBytes_any (how R : Int) (l : List E) (A : Option Addr) (cap : Nat) (w : World) (hll : l.length * 48 ≤ 140737488351232) (hs : ∀ e ∈ l, 0 ≤ e.k.s)
    (hr : Rd w w.heap.size A (entsC l)) :
    Calls Try.prog 3 #[.int .i64 how, .int .i64 R, .slice A l.length cap] w fun e w' => e = .returned (.bool true) ∧ Below w.heap.size w w' := by
  obtain ⟨ie, hi, hz0, hz1, hz2⟩ := info_parts info_entry
  obtain ⟨w1, hmk, hown1, hg1⟩ := run_make_own (P := Try.prog) w w.heap.size 22 48 ie _ 4 Try.underlying22 hi hz0 hz1 .i64 .i64 (l.length + 1) (by rw [hz2]; omega) (by unfold maxLen; omega) (Nat.le_refl _)
  rw [show (((l.length + 1 : Nat)) : Int) = (l.length : Int) + 1 by omega] at hmk
  have HO1 := Lib.hid (Own.of_owns hown1)
  have hb1 : Below w.heap.size w w1 := ⟨hg1.os, hg1.tape, hg1.output, hg1.size, fun k hk => hg1.block k hk (by simp)⟩
  have HB1 := Lib.hid hb1
  have HR := Lib.hid hr
  clear hown1 hg1 hb1 hr
  go_enter Try.func3, Try.ntmps3
  go_wp2_with (at_builtin; go_loud (refine wpList_append _ rfl _ _ 22 22 rfl w.heap.size 48 ie _ 4 48 Try.underlying22 hi hz0 hz1 hz2 rfl (by decide) _ 0 [] rfl HO1.out _ l.length (entsC l) rfl (Src.slice _ Try.underlying22 (by rw [entsC_len]) (HR.out.keep HB1.out)) ?c1 ?c2 ?c3 ?c4 ?_; (case c1 => (intro u hu; obtain ⟨e, _, he⟩ := List.mem_flatMap.1 hu; simp [entC] at he; rcases he with rfl | rfl | rfl | rfl <;> rfl)); (case c2 => (unfold maxLen; omega)); (case c3 => omega); (case c4 => exact HB1.out.size); intro v2 w2 hO2 hG2 hl2))
  simp only [Nat.zero_add, List.nil_append] at hO2
  have hb2 : Below w.heap.size w w2 := HB1.out.grown hG2 HB1.out.size (fun g hg => (HO1.out.lt g hg).1)
  obtain ⟨iA, ic, rfl, -, -, hr2⟩ := hO2.rd
  have HB2 := Lib.hid hb2
  have HR2 := Lib.hid hr2
  clear hO2 hG2 hl2 hb2 hr2 hmk HO1 HB1
  have hlb : l.length ≤ 140737488351240 := by omega
  have hBu := fun w' h => bBuild_any how R l iA ic w' hlb hs h
  have hRu := fun w' h => rBuild_any how R l A cap w' hlb hs h
  have hBs := fun w' h => bSize_any R l iA ic w' hlb hs h
  have hRs := fun w' h => rSize_any R l A cap w' hlb hs h
  generalize buildR how R l = br at *
  generalize sizeR R l = sr at *
  obtain ⟨bl, be⟩ := br
  obtain ⟨sn, se⟩ := sr
  dsimp only at hBu hRu hBs hRs
  have HBU := Lib.hid hBu
  have HRU := Lib.hid hRu
  have HBS := Lib.hid hBs
  have HRS := Lib.hid hRs
  clear hBu hRu hBs hRs
  refine (HBU.out _ HR2.out).mono ?_
  rintro e w3 ⟨v3, rfl, hb3, hv3⟩
  obtain ⟨A3, c3, rfl, -, -, hr3⟩ := hv3.rd
  have HB3 := Lib.hid (HB2.out.trans (hb3.mono HB2.out.size))
  have HR3 := Lib.hid (HR2.out.next hb3)
  have HS3 := Lib.hid hr3
  clear hb3 hv3 hr3
  go_wp2_with fail
  refine (HRU.out _ (HR.out.keep HB3.out |>.more HB3.out.size)).mono ?_
  rintro e w4 ⟨v4, rfl, hb4, hv4⟩
  obtain ⟨A4, c4, rfl, -, -, hr4⟩ := hv4.rd
  have HB4 := Lib.hid (HB3.out.trans (hb4.mono HB3.out.size))
  have HR4 := Lib.hid (HR3.out.next hb4)
  have HS4 := Lib.hid (HS3.out.next hb4)
  have HT4 := Lib.hid hr4
  clear hb4 hv4 hr4
  go_wp2_with fail
  refine (HBS.out _ HR4.out).mono ?_
  rintro e w5 ⟨rfl, hb5⟩
  have HB5 := Lib.hid (HB4.out.trans (hb5.mono HB4.out.size))
  have HR5 := Lib.hid (HR4.out.next hb5)
  have HS5 := Lib.hid (HS4.out.next hb5)
  have HT5 := Lib.hid (HT4.out.next hb5)
  clear hb5
  go_wp2_with fail
  refine (HRS.out _ (HR.out.keep HB5.out |>.more HB5.out.size)).mono ?_
  rintro e w6 ⟨rfl, hb6⟩
  have HB6 := Lib.hid (HB5.out.trans (hb6.mono HB5.out.size))
  have HR6 := Lib.hid (HR5.out.next hb6)
  have HS6 := Lib.hid (HS5.out.next hb6)
  have HT6 := Lib.hid (HT5.out.next hb6)
  clear hb6 HB2 HB3 HB4 HB5 HR2 HR3 HR4 HR5 HS3 HS4 HS5 HT4 HT5
  go_wp2_with fail
  refine (bBuild_any 0 1 [] none 0 w6 (by decide) (by simp) Rd.nil).mono ?_
  rintro e w7 ⟨v7, rfl, hb7, hv7⟩
  have h01 : buildR 0 1 [] = ([0, 0, 0, 0, 1, 0, 0, 0], 0) := by decide +kernel
  rw [h01] at hv7
  obtain ⟨A7, c7, rfl, -, -, hr7⟩ := hv7.rd
  have HB7 := Lib.hid (HB6.out.trans (hb7.mono HB6.out.size))
  have HR7 := Lib.hid (HR6.out.next hb7)
  have cv1 := run_toString (P := Try.prog) w7 23 9 5 A3 c3 w7.heap.size bl Try.underlying23 Try.underlying5 Try.underlying9 (HS6.out.next hb7)
  have cv2 := run_toString (P := Try.prog) w7 23 9 5 A4 c4 w7.heap.size bl Try.underlying23 Try.underlying5 Try.underlying9 (HT6.out.next hb7)
  have HV7 := Lib.hid hr7
  have H01 := Lib.hid h01
  clear hb7 hv7 hr7 h01
  rw [H01.out]
  go_wp2_with fail
  refine (bSame_yes l iA A ic cap w7.heap.size w.heap.size w7 hlb HR7.out (HR.out.keep HB7.out) (Nat.le_refl _) HB7.out.size).mono ?_
  rintro e w8 ⟨rfl, hb8⟩
  have cv3 : (convert 23 9 (.slice A7 8 c7)).run Try.prog w8 = .ok (.string ⟨#[0, 0, 0, 0, 1, 0, 0, 0]⟩) w8 := run_toString (P := Try.prog) w8 23 9 5 A7 c7 w8.heap.size [0, 0, 0, 0, 1, 0, 0, 0] Try.underlying23 Try.underlying5 Try.underlying9 (HV7.out.next hb8)
  have HB8 := Lib.hid (HB7.out.trans (hb8.mono HB7.out.size))
  clear hb8 cv1 cv2
  go_wp2_with fail
  go_ret
  exact ⟨ret_bool (by simp), HB8.out⟩
end Go.Proofs.Ytkajgpcnodgpcaa
