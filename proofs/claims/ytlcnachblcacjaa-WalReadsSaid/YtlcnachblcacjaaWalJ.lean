/-
  The law WalReads, walked.
-/
import Derived.Test.YtlcnachblcacjaaWalI
namespace Go.Proofs.Ytlcnachblcacjaa
set_option linter.unusedSimpArgs false
set_option linter.unusedVariables false
open Go.RowKit Go.IntWalk

theorem run_len (l : List UInt8) (log : Int) (r : Bool) : ∀ (f : Nat) (s : Ws), Wok l s → (run l log r f s).1.length ≤ l.length
  | 0, s, h => by have h1 := h.1; have h2 := h.2.1; show s.out.length ≤ l.length; omega
  | f + 1, s, h => by
    rcases hn : nextB l log r s.pos s.g with how | ⟨typ, body, at'⟩
    · rw [run_stop hn]; have h1 := h.1; have h2 := h.2.1; show s.out.length ≤ l.length; omega
    · rw [run_frag hn]; exact run_len l log r f _ (h.adv hn).1
theorem readR_len (l : List UInt8) (log : Int) : (readR l log).1.length ≤ 1073741824 := by
  unfold readR
  split
  · exact Nat.zero_le _
  · exact Nat.le_trans (run_len l log _ _ _ ⟨Nat.zero_le _, Nat.le_refl _, Nat.le_refl _⟩) (by omega)
theorem wAt_any (q n : Nat) (w : World) (h : w.cell? ⟨q, 2, none⟩ = some (.int .i64 n)) : Calls Try.prog 9 #[.pointer (some ⟨q, 0, none⟩)] w fun e w' => e = .returned (.int .i64 n) ∧ w' = w := by
  go_enter Try.func9, Try.ntmps9
  go_wp2
  go_ret
  exact ⟨rfl, rfl⟩
set_option maxHeartbeats 4000000 in
set_option maxRecDepth 100000 in
theorem walReads_any (A : Option Addr) (cap : Nat) (l : List UInt8) (log : Int) (w : World) (hl : l.length ≤ 140737488351232) (hcap : l.length ≤ cap) (hr : Bs w w.heap.size A l) :
    Calls Try.prog 3 #[.slice A l.length cap, .int .u32 log] w fun e w' => e = .returned (.bool true) ∧ Below w.heap.size w w' := by
  obtain ⟨i0, hi, hz0, hz1, hz2⟩ := info_parts info_byte
  have hb0 : Below w.heap.size w (w.alloc (.cells #[] 5)) := (Below.refl _ w).alloc (Nat.le_refl _) _
  have HO0 := Lib.hid ((Blk.new w 5 #[]).own (base := w.heap.size) (n := 0) (cap := 0) (size := 1) (xs := []) (Nat.le_refl _) (Nat.le_refl _) (by unfold maxLen; omega) rfl rfl)
  have HB0 := Lib.hid hb0
  have HR := Lib.hid hr
  clear hb0 hr
  go_enter Try.func3, Try.ntmps3
  go_wp2_with (at_builtin; go_loud (refine wpList_append _ rfl (.tmp 16) (.tmp 17) 22 22 rfl w.heap.size 5 i0 (.int .u8 0) 1 1 Try.underlying22 hi hz0 hz1 hz2 rfl (by decide) _ 0 [] rfl HO0.out _ l.length (l.map byteV) rfl (Src.slice _ Try.underlying22 (by simp) (HR.out.keep HB0.out)) ?c1 ?c2 ?c3 ?c4 ?_; (case c1 => (intro u hu; obtain ⟨x, _, rfl⟩ := List.mem_map.1 hu; rfl)); (case c2 => (unfold maxLen; omega)); (case c3 => omega); (case c4 => exact HB0.out.size); intro v1 w1 hO1 hG1 hl1; simp only [Nat.zero_add, List.nil_append] at hO1; have hb1 := HB0.out.grown hG1 HB0.out.size (fun k hk => (HO0.out.lt k hk).1); obtain ⟨A1, c1, rfl, hc1, -, hr1⟩ := hO1.rd; have HB1 := Lib.hid hb1; have HR1 := Lib.hid hr1; clear hO1 hG1 hl1 hb1 hr1))
  have HW := Lib.hid (wRead_any A1 c1 log l w1 hc1 HR1.out)
  have HRR := Lib.hid (fun w' h => rRead_any A cap log l w' hcap h)
  have HP := Lib.hid (fun rec w' h => wReopen_any A cap log rec l w' (by omega) hcap h)
  have HQ := Lib.hid (fun rec w' h => r5Reopen_any A cap log rec l w' (by omega) hcap h)
  have hout : (readR l log).1.length ≤ 1073741824 := readR_len l log
  generalize readR l log = res at *
  generalize reopE l log = re at *
  obtain ⟨out, how, place⟩ := res
  dsimp only at hout
  refine HW.out.mono ?_
  rintro e w2 ⟨ov, vs, rfl, ho2, he2, hb2⟩
  obtain ⟨oA, oc, rfl, -, -, hr2⟩ := ho2.rd
  have HB2 := Lib.hid (HB1.out.trans (hb2.mono HB1.out.size))
  have HR2 := Lib.hid hr2
  have HE2 := Lib.hid he2
  dsimp only at HE2
  clear hb2 ho2 he2 hr2 HW HR1
  go_wp2_with fail
  refine (HRR.out _ (HR.out.keep HB2.out |>.more HB2.out.size)).mono ?_
  rintro e w3 ⟨ov2, vs2, rfl, ho3, he3, hb3⟩
  obtain ⟨oA2, oc2, rfl, -, -, hr3⟩ := ho3.rd
  have HB3 := Lib.hid (HB2.out.trans (hb3.mono HB2.out.size))
  have HR3 := Lib.hid (HR2.out.next hb3)
  have HE3 := Lib.hid (HE2.out.keep (o := none) (fun _ _ _ _ _ _ => by simp) (fun k hk _ => hb3.block k hk) hb3.size)
  have HT3 := Lib.hid hr3
  have HF3 := Lib.hid he3
  dsimp only at HF3
  clear hb3 ho3 he3 hr3 HRR HR2 HE2
  go_wp2_with fail
  refine (HP.out _ _ (HR.out.keep HB3.out |>.more HB3.out.size)).mono ?_
  rintro e w4 ⟨hb4, hp4⟩
  have HB4 := Lib.hid (HB3.out.trans (hb4.mono HB3.out.size))
  have HR4 := Lib.hid (HR3.out.next hb4)
  have HE4 := Lib.hid (HE3.out.keep (o := none) (fun _ _ _ _ _ _ => by simp) (fun k hk _ => hb4.block k hk) hb4.size)
  have HT4 := Lib.hid (HT3.out.next hb4)
  have HF4 := Lib.hid (HF3.out.keep (o := none) (fun _ _ _ _ _ _ => by simp) (fun k hk _ => hb4.block k hk) hb4.size)
  clear hb4 HP HR3 HE3 HT3 HF3
  rcases hp4 with ⟨hre, rfl⟩ | ⟨hre, q, rfl, hq⟩
  · go_wp2_with fail
    refine (HQ.out _ _ (HR.out.keep HB4.out |>.more HB4.out.size)).mono ?_
    rintro e w6 ⟨hb5, hp5⟩
    have HB6 := Lib.hid (HB4.out.trans (hb5.mono HB4.out.size))
    have HR6 := Lib.hid (HR4.out.next hb5)
    have HE6 := Lib.hid (HE4.out.keep (o := none) (fun _ _ _ _ _ _ => by simp) (fun k hk _ => hb5.block k hk) hb5.size)
    have HT6 := Lib.hid (HT4.out.next hb5)
    have HF6 := Lib.hid (HF4.out.keep (o := none) (fun _ _ _ _ _ _ => by simp) (fun k hk _ => hb5.block k hk) hb5.size)
    clear hb5 HQ HR4 HE4 HT4 HF4
    rcases hp5 with ⟨-, rfl⟩ | ⟨hre2, _⟩
    · clear hre
      go_wp2_with fail
      refine (same05_yes out vs vs2 oA oA2 oc oc2 _ hout HR6.out HT6.out HE6.out HF6.out).mono ?_
      rintro e w7 ⟨rfl, hb7⟩
      have HB7 := Lib.hid (HB6.out.trans (hb7.mono HB6.out.size))
      go_wp2_with fail
      refine (lives05_any _).mono ?_
      rintro e w9 ⟨rfl, hb9⟩
      go_wp2_with fail
      go_ret
      exact ⟨ret_bool rfl, HB7.out.trans (hb9.mono HB7.out.size)⟩
    · exact absurd hre2 hre
  · subst hre
    go_wp2_with fail
    refine (HQ.out _ _ (HR.out.keep HB4.out |>.more HB4.out.size)).mono ?_
    rintro e w6 ⟨hb5, hp5⟩
    have hqb : q < w4.heap.size := World.block_lt_of_cell? _ _ hq
    have HQ6 := Lib.hid ((hb5.cell (p := ⟨q, 2, none⟩) hqb).trans hq)
    have hqz : q < w6.heap.size := Nat.lt_of_lt_of_le hqb hb5.size
    have HB6 := Lib.hid (HB4.out.trans (hb5.mono HB4.out.size))
    have HR6 := Lib.hid (HR4.out.next hb5)
    have HE6 := Lib.hid (HE4.out.keep (o := none) (fun _ _ _ _ _ _ => by simp) (fun k hk _ => hb5.block k hk) hb5.size)
    have HT6 := Lib.hid (HT4.out.next hb5)
    have HF6 := Lib.hid (HF4.out.keep (o := none) (fun _ _ _ _ _ _ => by simp) (fun k hk _ => hb5.block k hk) hb5.size)
    clear hb5 HQ HR4 HE4 HT4 HF4 hq hqb
    rcases hp5 with ⟨h, _⟩ | ⟨-, q2, rfl, -⟩
    · exact absurd rfl h
    ·
      go_wp2_with fail
      refine (same05_yes out vs vs2 oA oA2 oc oc2 _ hout HR6.out HT6.out HE6.out HF6.out).mono ?_
      rintro e w7 ⟨rfl, hb7⟩
      have HB7 := Lib.hid (HB6.out.trans (hb7.mono HB6.out.size))
      have hq7 := (hb7.cell (p := ⟨q, 2, none⟩) hqz).trans HQ6.out
      go_wp2_with fail
      refine (wAt_any q l.length _ hq7).mono ?_
      rintro e w8 ⟨rfl, rfl⟩
      go_wp2_with fail
      refine (lives05_any _).mono ?_
      rintro e w9 ⟨rfl, hb9⟩
      go_wp2_with fail
      go_ret
      exact ⟨ret_bool rfl, HB7.out.trans (hb9.mono HB7.out.size)⟩
end Go.Proofs.Ytlcnachblcacjaa

