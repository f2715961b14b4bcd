/-
  The walks of Decode, the program's and the document's.
-/
import Derived.Test.YtkajgpcnodgpcaaCodG
import Derived.Laws.ResultCell
import Derived.Lib.VarintBits
namespace Go.Proofs.Ytkajgpcnodgpcaa
set_option linter.unusedSimpArgs false
open Go.RowKit Go.IntWalk
attribute [local go_sem ↓] Go.wp_at_zero Go.wp_at_succ

/-- the key that the bytes hold, well formed or not -/
def decK (l : List UInt8) : K := ⟨⟨(l.take (l.length - 8)).toArray⟩, ((unB (l.drop (l.length - 8)) / 256 : Nat) : Int), ((unB (l.drop (l.length - 8)) % 256 : Nat) : Int)⟩
def decE (l : List UInt8) : Int := if l.length < 8 then 4 else if chkK (decK l) = 0 then 0 else 3
def decR (l : List UInt8) : K := if l.length < 8 then ⟨ByteArray.empty, 0, 0⟩ else if chkK (decK l) = 0 then decK l else ⟨ByteArray.empty, 0, 0⟩
def keyV (a : K) : Value := .agg #[.string a.u, .int .u64 a.s, .int .i64 a.k]

theorem and255 (n : Nat) (h : n < 256 ^ 8) : bits .and .u64 (n : Int) 255 = ((n % 256 : Nat) : Int) := by
  have h := bits_mask .u64 64 (by decide) wraps_u64 8 (by decide) (n : Int) (by omega) (by omega)
  simp only [show (2 : Int) ^ 8 - 1 = 255 from rfl] at h
  rw [h]
  omega
theorem cFix_8 (A : Option Addr) (cap : Nat) (l : List UInt8) (w : World) (h8 : l.length = 8) (hl : 8 ≤ cap) (hbs : Bs w w.heap.size A l) :
    Calls Try.prog 89 #[.slice A 8 cap] w fun e w' => e = .returned (.tuple #[.int .u64 (unB l : Nat), .int .i64 0]) ∧ Below w.heap.size w w' := by
  have := cReadFixed64_long A cap l w (by omega) (by omega) hbs
  rwa [h8, List.take_of_length_le (by omega)] at this
theorem rFix_8 (A : Option Addr) (cap : Nat) (l : List UInt8) (w : World) (h8 : l.length = 8) (_ : 8 ≤ cap) (hbs : Bs w w.heap.size A l) :
    Calls Try.prog 34 #[.slice A 8 cap, .int .i64 8] w fun e w' => e = .returned (.tuple #[.int .u64 (unB l : Nat), .int .i64 0]) ∧ Below w.heap.size w w' := by
  have := rReadFixed_long 8 A cap l _ w (by omega) (by omega) (by omega) hbs
  rw [h8, List.take_of_length_le (by omega)] at this
  exact this.mono fun e w' ⟨he, hw⟩ => ⟨he, by rw [hw]; exact Below.refl _ _⟩

set_option maxHeartbeats 1000000 in
theorem cDecode_short (A : Option Addr) (cap : Nat) (l : List UInt8) (w : World) (hs : l.length < 8) :
    Calls Try.prog 84 #[.slice A l.length cap] w fun e w' => e = .returned (.tuple #[keyV ⟨ByteArray.empty, 0, 0⟩, .int .i64 4]) ∧ Below w.heap.size w w' := by
  have hd : decide ((l.length : Int) < 8) = true := by simp; omega
  have hd2 : decide ((l.length : Int) - 8 < 0) = true := by simp; omega
  go_enter Try.func84, Try.ntmps84
  go_wp2
  (try simp only [Exit.inBlock, Exit.then])
  refine bodyPost_ret (v := .tuple #[keyV ⟨ByteArray.empty, 0, 0⟩, .int .i64 4]) ?_ rfl ⟨rfl, ?_⟩
  · rw [results_cell_tmp rfl]; go_simp; rfl
  · (repeat' (first | exact Below.refl _ _ | refine Below.alloc ?_ (by simp <;> omega) _))
set_option maxHeartbeats 4000000 in
theorem cDecode_long (m b off : Nat) (cap : Nat) (l : List UInt8) (w : World) (hlen : l.length = m + 8) (hl : m + 8 ≤ cap) (hcap : m + 8 ≤ 140737488351240) (hbs : Bs w w.heap.size (some ⟨b, off, none⟩) l) :
    Calls Try.prog 84 #[.slice (some ⟨b, off, none⟩) (m + 8) cap] w fun e w' => e = .returned (.tuple #[keyV (decR l), .int .i64 (decE l)]) ∧ Below w.heap.size w w' := by
  have hd : decide ((m : Int) + 8 < 8) = false := by simp; omega
  have hd2 : decide ((m : Int) < 0) = false := by simp
  have hsub : wrap64 (m : Int) = (m : Int) := wrap64_in _ (by omega)
  have hcm : (cap = m) = False := by simp; omega
  have hm8 : m + 8 - m = 8 := by omega
  have hn := unB_lt (l.drop m)
  rw [List.length_drop, hlen, hm8] at hn
  have hl8 : (l.drop m).length = 8 := by rw [List.length_drop, hlen, hm8]
  have hdec : decK l = ⟨⟨(l.take m).toArray⟩, ((unB (l.drop m) / 256 : Nat) : Int), ((unB (l.drop m) % 256 : Nat) : Int)⟩ := by unfold decK; rw [show l.length - 8 = m by omega]
  have hE : decE l = if chkK (decK l) = 0 then 0 else 3 := by unfold decE; rw [if_neg (by omega)]
  have hR : decR l = if chkK (decK l) = 0 then decK l else ⟨ByteArray.empty, 0, 0⟩ := by unfold decR; rw [if_neg (by omega)]
  rw [hE, hR, hdec]
  have hb8 : Bs w w.heap.size (some ⟨b, off + m, none⟩) (l.drop m) := by have := Rd.cut hbs m; rwa [← List.map_drop] at this
  have hbm : Bs w w.heap.size (some ⟨b, off, none⟩) (l.take m) := by have := Rd.take hbs m; rwa [← List.map_take] at this
  have hml : (l.take m).length = m := by rw [List.length_take]; omega
  clear hE hR hdec hlen hbs
  generalize hnn : unB (l.drop m) = n at *
  generalize l.take m = t at *
  generalize l.drop m = d at *
  have hw1 : (n : Int) / 256 = ((n / 256 : Nat) : Int) := by omega
  have hw2 : wrap64 (bits .and .u64 (n : Int) 255) = ((n % 256 : Nat) : Int) := by rw [and255 n hn]; exact wrap64_in _ (by omega)
  generalize ((n / 256 : Nat) : Int) = qq at *
  generalize ((n % 256 : Nat) : Int) = kk at *
  generalize hrr : (if chkK ⟨⟨t.toArray⟩, qq, kk⟩ = 0 then (⟨⟨t.toArray⟩, qq, kk⟩ : K) else ⟨ByteArray.empty, 0, 0⟩) = rr
  generalize hee : (if chkK ⟨⟨t.toArray⟩, qq, kk⟩ = 0 then (0 : Int) else 3) = ee
  go_enter Try.func84, Try.ntmps84
  go_wp2_with fail
  refine (cFix_8 _ _ _ _ hl8 (by omega) (hb8.next ((Below.refl _ _).alloc (Nat.le_refl _) _))).mono ?_
  rw [hnn]
  rintro e w1 ⟨rfl, hb1⟩
  have hst := run_toString w1 (P := Try.prog) 23 9 5 (some ⟨b, off, none⟩) cap _ t Try.underlying23 Try.underlying5 Try.underlying9 ((hbm.next ((Below.refl _ _).alloc (Nat.le_refl _) _)).next hb1)
  rw [hml] at hst
  change Sem.run Try.prog (convert 23 9 (.slice (some ⟨b, off, none⟩) m cap)) w1 = _ at hst
  have hz := hb1.size
  have hbw : Below w.heap.size w w1 := ((Below.refl _ _).alloc (Nat.le_refl _) _).trans (hb1.mono (by simp))
  have hblk : Blk w1 w.heap.size 33 #[.string ⟨#[]⟩, .int .u64 0, .int .i64 0] := (hb1.block w.heap.size (by simp)).trans (Blk.new w _ _)
  simp only [World.size_alloc] at hz
  clear hb1 hb8 hbm
  by_cases hck : chkK ⟨⟨t.toArray⟩, qq, kk⟩ = 0
  · rw [if_pos hck] at hrr hee
    have HR := Lib.hid hrr; clear hrr
    have HE := Lib.hid hee; clear hee
    have hB : Below w1.heap.size w1 ((w1.alloc (.cells #[.string ⟨#[]⟩, .int .u64 0, .int .i64 0] 33))) := (Below.refl _ _).alloc (Nat.le_refl _) _
    go_wp2_with fail
    refine (cCheck_any _ _ _ _).mono ?_
    rw [hck]
    rintro e w2 ⟨rfl, hb2⟩
    have hk2 : Blk w2 w1.heap.size 33 #[.string ⟨t.toArray⟩, .int .u64 qq, .int .i64 kk] := (hb2.block w1.heap.size (by simp)).trans (Blk.new w1 _ _)
    have hr2 : Blk w2 w.heap.size 33 #[.string ⟨#[]⟩, .int .u64 0, .int .i64 0] := (hblk.alloc _).below hb2 (by simp; omega)
    have hbw2 : Below w.heap.size w w2 := (hbw.trans ((Below.refl _ _).alloc (Nat.le_of_lt hz) _)).trans (hb2.mono (by simp; omega))
    have HB := Lib.hid hbw2
    have k0 := hk2.cell 0
    have k1 := hk2.cell 1
    have k2 := hk2.cell 2
    have r0 := hr2.cell 0
    have r1 := hr2.cell 1
    have r2 := hr2.cell 2
    have f0 := hr2.frozen 0
    have f1 := hr2.frozen 1
    have f2 := hr2.frozen 2
    simp only [List.getElem?_toArray, List.getElem?_cons_zero, List.getElem?_cons_succ] at k0 k1 k2 r0 r1 r2
    clear hbw hb2 hbw2 hk2 hr2 hblk
    go_wp2
    (try simp only [Exit.inBlock, Exit.then])
    refine bodyPost_ret (v := .tuple #[keyV ⟨⟨t.toArray⟩, qq, kk⟩, .int .i64 0]) ?_ rfl ⟨ret_two (by rw [← HR.out]) (by rw [← HE.out]), ?_⟩
    · rw [results_cell_tmp rfl]; go_simp; rfl
    · exact ((HB.out.setCell (Nat.le_refl _) _).setCell (Nat.le_refl _) _).setCell (Nat.le_refl _) _
  · rw [if_neg hck] at hrr hee
    have HR := Lib.hid hrr; clear hrr
    have HE := Lib.hid hee; clear hee
    generalize hcc : chkK ⟨⟨t.toArray⟩, qq, kk⟩ = cc at *
    have hcb : (cc != 0) = true := by simpa using hck
    go_wp2_with fail
    refine (cCheck_any _ _ _ _).mono ?_
    rw [hcc]
    rintro e w2 ⟨rfl, hb2⟩
    have hk2 : Blk w2 w1.heap.size 33 #[.string ⟨t.toArray⟩, .int .u64 qq, .int .i64 kk] := (hb2.block w1.heap.size (by simp)).trans (Blk.new w1 _ _)
    have hr2 : Blk w2 w.heap.size 33 #[.string ⟨#[]⟩, .int .u64 0, .int .i64 0] := (hblk.alloc _).below hb2 (by simp; omega)
    have hbw2 : Below w.heap.size w w2 := (hbw.trans ((Below.refl _ _).alloc (Nat.le_of_lt hz) _)).trans (hb2.mono (by simp; omega))
    have HB := Lib.hid hbw2
    have k0 := hk2.cell 0
    have k1 := hk2.cell 1
    have k2 := hk2.cell 2
    have r0 := hr2.cell 0
    have r1 := hr2.cell 1
    have r2 := hr2.cell 2
    have f0 := hr2.frozen 0
    have f1 := hr2.frozen 1
    have f2 := hr2.frozen 2
    simp only [List.getElem?_toArray, List.getElem?_cons_zero, List.getElem?_cons_succ] at k0 k1 k2 r0 r1 r2
    clear hbw hb2 hbw2 hk2 hr2 hblk
    go_wp2
    (try simp only [Exit.inBlock, Exit.then])
    refine bodyPost_ret (v := .tuple #[keyV ⟨ByteArray.empty, 0, 0⟩, .int .i64 3]) ?_ rfl ⟨ret_two (by rw [← HR.out]) (by rw [← HE.out]), ?_⟩
    · rw [results_cell_tmp rfl]; go_simp; rfl
    · exact ((HB.out.setCell (Nat.le_refl _) _).setCell (Nat.le_refl _) _).setCell (Nat.le_refl _) _
set_option maxHeartbeats 1000000 in
theorem rDecode_short (A : Option Addr) (cap : Nat) (l : List UInt8) (w : World) (hs : l.length < 8) :
    Calls Try.prog 63 #[.slice A l.length cap] w fun e w' => e = .returned (.tuple #[keyV ⟨ByteArray.empty, 0, 0⟩, .int .i64 4]) ∧ Below w.heap.size w w' := by
  have hd : decide ((l.length : Int) < 8) = true := by simp; omega
  have hd2 : decide ((l.length : Int) - 8 < 0) = true := by simp; omega
  go_enter Try.func63, Try.ntmps63
  go_wp2
  (try simp only [Exit.inBlock, Exit.then])
  refine bodyPost_ret (v := .tuple #[keyV ⟨ByteArray.empty, 0, 0⟩, .int .i64 4]) ?_ rfl ⟨rfl, ?_⟩
  · rw [results_cell_tmp rfl]; go_simp; rfl
  · (repeat' (first | exact Below.refl _ _ | refine Below.alloc ?_ (by simp <;> omega) _))
set_option maxHeartbeats 4000000 in
theorem rDecode_long (m b off : Nat) (cap : Nat) (l : List UInt8) (w : World) (hlen : l.length = m + 8) (hl : m + 8 ≤ cap) (hcap : m + 8 ≤ 140737488351240) (hbs : Bs w w.heap.size (some ⟨b, off, none⟩) l) :
    Calls Try.prog 63 #[.slice (some ⟨b, off, none⟩) (m + 8) cap] w fun e w' => e = .returned (.tuple #[keyV (decR l), .int .i64 (decE l)]) ∧ Below w.heap.size w w' := by
  have hd : decide ((m : Int) + 8 < 8) = false := by simp; omega
  have hd2 : decide ((m : Int) < 0) = false := by simp
  have hsub : wrap64 (m : Int) = (m : Int) := wrap64_in _ (by omega)
  have hcm : (cap = m) = False := by simp; omega
  have hm8 : m + 8 - m = 8 := by omega
  have hn := unB_lt (l.drop m)
  rw [List.length_drop, hlen, hm8] at hn
  have hl8 : (l.drop m).length = 8 := by rw [List.length_drop, hlen, hm8]
  have hdec : decK l = ⟨⟨(l.take m).toArray⟩, ((unB (l.drop m) / 256 : Nat) : Int), ((unB (l.drop m) % 256 : Nat) : Int)⟩ := by unfold decK; rw [show l.length - 8 = m by omega]
  have hE : decE l = if chkK (decK l) = 0 then 0 else 3 := by unfold decE; rw [if_neg (by omega)]
  have hR : decR l = if chkK (decK l) = 0 then decK l else ⟨ByteArray.empty, 0, 0⟩ := by unfold decR; rw [if_neg (by omega)]
  rw [hE, hR, hdec]
  have hb8 : Bs w w.heap.size (some ⟨b, off + m, none⟩) (l.drop m) := by have := Rd.cut hbs m; rwa [← List.map_drop] at this
  have hbm : Bs w w.heap.size (some ⟨b, off, none⟩) (l.take m) := by have := Rd.take hbs m; rwa [← List.map_take] at this
  have hml : (l.take m).length = m := by rw [List.length_take]; omega
  clear hE hR hdec hlen hbs
  generalize hnn : unB (l.drop m) = n at *
  generalize l.take m = t at *
  generalize l.drop m = d at *
  have hw1 : (n : Int) / 256 = ((n / 256 : Nat) : Int) := by omega
  have hw2 : wrap64 (bits .and .u64 (n : Int) 255) = ((n % 256 : Nat) : Int) := by rw [and255 n hn]; exact wrap64_in _ (by omega)
  generalize ((n / 256 : Nat) : Int) = qq at *
  generalize ((n % 256 : Nat) : Int) = kk at *
  generalize hrr : (if chkK ⟨⟨t.toArray⟩, qq, kk⟩ = 0 then (⟨⟨t.toArray⟩, qq, kk⟩ : K) else ⟨ByteArray.empty, 0, 0⟩) = rr
  generalize hee : (if chkK ⟨⟨t.toArray⟩, qq, kk⟩ = 0 then (0 : Int) else 3) = ee
  go_enter Try.func63, Try.ntmps63
  go_wp2_with fail
  refine (rFix_8 _ _ _ _ hl8 (by omega) (hb8.next ((Below.refl _ _).alloc (Nat.le_refl _) _))).mono ?_
  rw [hnn]
  rintro e w1 ⟨rfl, hb1⟩
  have hst := run_toString w1 (P := Try.prog) 23 9 5 (some ⟨b, off, none⟩) cap _ t Try.underlying23 Try.underlying5 Try.underlying9 ((hbm.next ((Below.refl _ _).alloc (Nat.le_refl _) _)).next hb1)
  rw [hml] at hst
  change Sem.run Try.prog (convert 23 9 (.slice (some ⟨b, off, none⟩) m cap)) w1 = _ at hst
  have hz := hb1.size
  have hbw : Below w.heap.size w w1 := ((Below.refl _ _).alloc (Nat.le_refl _) _).trans (hb1.mono (by simp))
  have hblk : Blk w1 w.heap.size 33 #[.string ⟨#[]⟩, .int .u64 0, .int .i64 0] := (hb1.block w.heap.size (by simp)).trans (Blk.new w _ _)
  simp only [World.size_alloc] at hz
  clear hb1 hb8 hbm
  by_cases hck : chkK ⟨⟨t.toArray⟩, qq, kk⟩ = 0
  · rw [if_pos hck] at hrr hee
    have HR := Lib.hid hrr; clear hrr
    have HE := Lib.hid hee; clear hee
    have hB : Below w1.heap.size w1 ((w1.alloc (.cells #[.string ⟨#[]⟩, .int .u64 0, .int .i64 0] 33))) := (Below.refl _ _).alloc (Nat.le_refl _) _
    go_wp2_with fail
    refine (rCheck_any _ _ _ _).mono ?_
    rw [hck]
    rintro e w2 ⟨rfl, hb2⟩
    have hk2 : Blk w2 w1.heap.size 33 #[.string ⟨t.toArray⟩, .int .u64 qq, .int .i64 kk] := (hb2.block w1.heap.size (by simp)).trans (Blk.new w1 _ _)
    have hr2 : Blk w2 w.heap.size 33 #[.string ⟨#[]⟩, .int .u64 0, .int .i64 0] := (hblk.alloc _).below hb2 (by simp; omega)
    have hbw2 : Below w.heap.size w w2 := (hbw.trans ((Below.refl _ _).alloc (Nat.le_of_lt hz) _)).trans (hb2.mono (by simp; omega))
    have HB := Lib.hid hbw2
    have k0 := hk2.cell 0
    have k1 := hk2.cell 1
    have k2 := hk2.cell 2
    have r0 := hr2.cell 0
    have r1 := hr2.cell 1
    have r2 := hr2.cell 2
    have f0 := hr2.frozen 0
    have f1 := hr2.frozen 1
    have f2 := hr2.frozen 2
    simp only [List.getElem?_toArray, List.getElem?_cons_zero, List.getElem?_cons_succ] at k0 k1 k2 r0 r1 r2
    clear hbw hb2 hbw2 hk2 hr2 hblk
    go_wp2
    (try simp only [Exit.inBlock, Exit.then])
    refine bodyPost_ret (v := .tuple #[keyV ⟨⟨t.toArray⟩, qq, kk⟩, .int .i64 0]) ?_ rfl ⟨ret_two (by rw [← HR.out]) (by rw [← HE.out]), ?_⟩
    · rw [results_cell_tmp rfl]; go_simp; rfl
    · exact ((HB.out.setCell (Nat.le_refl _) _).setCell (Nat.le_refl _) _).setCell (Nat.le_refl _) _
  · rw [if_neg hck] at hrr hee
    have HR := Lib.hid hrr; clear hrr
    have HE := Lib.hid hee; clear hee
    generalize hcc : chkK ⟨⟨t.toArray⟩, qq, kk⟩ = cc at *
    have hcb : (cc != 0) = true := by simpa using hck
    go_wp2_with fail
    refine (rCheck_any _ _ _ _).mono ?_
    rw [hcc]
    rintro e w2 ⟨rfl, hb2⟩
    have hk2 : Blk w2 w1.heap.size 33 #[.string ⟨t.toArray⟩, .int .u64 qq, .int .i64 kk] := (hb2.block w1.heap.size (by simp)).trans (Blk.new w1 _ _)
    have hr2 : Blk w2 w.heap.size 33 #[.string ⟨#[]⟩, .int .u64 0, .int .i64 0] := (hblk.alloc _).below hb2 (by simp; omega)
    have hbw2 : Below w.heap.size w w2 := (hbw.trans ((Below.refl _ _).alloc (Nat.le_of_lt hz) _)).trans (hb2.mono (by simp; omega))
    have HB := Lib.hid hbw2
    have k0 := hk2.cell 0
    have k1 := hk2.cell 1
    have k2 := hk2.cell 2
    have r0 := hr2.cell 0
    have r1 := hr2.cell 1
    have r2 := hr2.cell 2
    have f0 := hr2.frozen 0
    have f1 := hr2.frozen 1
    have f2 := hr2.frozen 2
    simp only [List.getElem?_toArray, List.getElem?_cons_zero, List.getElem?_cons_succ] at k0 k1 k2 r0 r1 r2
    clear hbw hb2 hbw2 hk2 hr2 hblk
    go_wp2
    (try simp only [Exit.inBlock, Exit.then])
    refine bodyPost_ret (v := .tuple #[keyV ⟨ByteArray.empty, 0, 0⟩, .int .i64 3]) ?_ rfl ⟨ret_two (by rw [← HR.out]) (by rw [← HE.out]), ?_⟩
    · rw [results_cell_tmp rfl]; go_simp; rfl
    · exact ((HB.out.setCell (Nat.le_refl _) _).setCell (Nat.le_refl _) _).setCell (Nat.le_refl _) _
end Go.Proofs.Ytkajgpcnodgpcaa
