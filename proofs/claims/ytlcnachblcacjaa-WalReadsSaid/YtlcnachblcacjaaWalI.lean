/-
  Two lists of bytes that read alike are the same; a small log is written and read.
-/
import Derived.Test.YtlcnachblcacjaaWalH
import Derived.Test.YtlcnachblcacjaaVar
import Derived.Lib.SlBytesConst
namespace Go.Proofs.Ytlcnachblcacjaa
set_option linter.unusedSimpArgs false
set_option linter.unusedVariables false
open Go.RowKit Go.IntWalk

theorem Rd.at_ {w : World} {B : Nat} {A : Option Addr} {cs : List Value} (h : Rd w B A cs) {k : Nat} {u : Value} (hk : cs[k]? = some u) : ∃ b off, A = some ⟨b, off, none⟩ ∧ b < B ∧ w.cell? ⟨b, off + k, none⟩ = some u := by
  rcases h with h | ⟨b, off, rfl, hb, hc⟩
  · subst h; simp at hk
  · exact ⟨b, off, rfl, hb, hc k u hk⟩
set_option maxHeartbeats 2000000 in
theorem same05_yes (xs : List (List UInt8)) (vs1 vs2 : List Value) (A1 A2 : Option Addr) (c1 c2 : Nat) (w : World) (hl : xs.length ≤ 1073741824)
    (h1 : Rd w w.heap.size A1 vs1) (h2 : Rd w w.heap.size A2 vs2) (e1 : Els w vs1 xs) (e2 : Els w vs2 xs) :
    Calls Try.prog 8 #[.slice A1 vs1.length c1, .slice A2 vs2.length c2] w fun e w' => e = .returned (.bool true) ∧ Below w.heap.size w w' := by
  have l1 := e1.len
  have l2 := e2.len
  rw [l1, l2]
  clear l1 l2
  go_enter Try.func8, Try.ntmps8
  go_wp2
  go_loopw [5] (fun i wr => ∃ k : Nat, k ≤ xs.length ∧ i = .int .i64 k ∧ Hid (Below w.heap.size w wr)) (fun i _ => xs.length - (intOf i).toNat)
  case atStart => exact ⟨0, Nat.zero_le _, rfl, Below.refl _ _⟩
  case round =>
    obtain ⟨k, hk, rfl, HW⟩ := hrel
    by_cases hka : k < xs.length
    · obtain ⟨E1, k1, q1, r1⟩ := e1.at_ k hka
      obtain ⟨E2, k2, q2, r2⟩ := e2.at_ k hka
      obtain ⟨b1, o1, rfl, hb1, t1⟩ := h1.at_ q1
      obtain ⟨b2, o2, rfl, hb2, t2⟩ := h2.at_ q2
      have d1 := (HW.out.cell (p := ⟨b1, o1 + k, none⟩) hb1).trans t1
      have d2 := (HW.out.cell (p := ⟨b2, o2 + k, none⟩) hb2).trans t2
      generalize xs[k] = x at *
      have cv1 := fun n => run_toString (P := Try.prog) (wr.drewN n) 22 9 5 E1 k1 w.heap.size x Try.underlying22 Try.underlying5 Try.underlying9 (r1.keep (below_drewN HW.out n))
      have cv2 := fun n => run_toString (P := Try.prog) (wr.drewN n) 22 9 5 E2 k2 w.heap.size x Try.underlying22 Try.underlying5 Try.underlying9 (r2.keep (below_drewN HW.out n))
      clear t1 t2 r1 r2 q1 q2
      go_wp2_with fail
      go_quiet (fail)
      go_wp2_with fail
      go_roundw
      case rel => exact ⟨k + 1, by omega, by go_num, below_drewN HW.out _⟩
      case measure => simp [intOf]; omega
    · obtain rfl : k = xs.length := by omega
      go_wp2
      go_ret
      exact ⟨rfl, HW.out⟩
def abcL : List UInt8 := leB (maskI (sumL [1, 97, 98, 99])).toNat 4 ++ [3, 0] ++ [1, 97, 98, 99]
theorem abcL_read : readR abcL 7 = ([[97, 98, 99]], 0, 10) := by decide +kernel
set_option maxHeartbeats 2000000 in
set_option maxRecDepth 100000 in
theorem wWFrag_abc (g c : Nat) (A : Option Addr) (w : World) (hc : w.cell? ⟨g, 1, none⟩ = some (.bool false)) (hg : g < w.heap.size) (hbs : Bs w w.heap.size A [97, 98, 99]) :
    Calls Try.prog 26 #[.pointer (some ⟨g, 0, none⟩), .int .i64 1, .slice A 3 c] w fun e w' => ∃ v, e = .returned v ∧ Below w.heap.size w w' ∧ Own w' w.heap.size 5 1 v 10 (abcL.map byteV) := by
  obtain ⟨i0, hi, hz0, hz1, hz2⟩ := info_parts info_byte
  have HO0 := Lib.hid ((Blk.new w 5 #[.int .u8 1]).own (base := w.heap.size) (n := 1) (cap := 1) (size := 1) (xs := [.int .u8 1]) (Nat.le_refl _) (Nat.le_refl _) (by unfold maxLen; omega) rfl rfl)
  have hb0 : Below w.heap.size w (w.alloc (.cells #[.int .u8 1] 5)) := (Below.refl _ w).alloc (Nat.le_refl _) _
  have HB0 := Lib.hid hb0
  have HS0 := Lib.hid (hbs.keep hb0)
  have hc1 := (hb0.cell (p := ⟨g, 1, none⟩) hg).trans hc
  clear hbs hc hb0
  go_enter Try.func26, Try.ntmps26
  go_wp2_with (at_builtin; go_loud (refine wpList_append _ rfl (.tmp 26) (.tmp 27) 22 22 rfl w.heap.size 5 i0 (.int .u8 0) 1 1 Try.underlying22 hi hz0 hz1 hz2 rfl (by decide) _ _ _ rfl HO0.out _ 3 _ rfl (Src.slice _ Try.underlying22 rfl HS0.out) ?c1 ?c2 ?c3 ?c4 ?_; (case c1 => (intro u hu; obtain ⟨x, _, rfl⟩ := List.mem_map.1 hu; rfl)); (case c2 => (unfold maxLen; omega)); (case c3 => omega); (case c4 => (simp)); intro v1 w1 hO1 hG1 hl1; have hb1 := HB0.out.grown hG1 HB0.out.size (fun k hk => (HO0.out.lt k hk).1); obtain ⟨A1, c1, rfl, -, -, hr1⟩ := hO1.rd; have HO1 := Lib.hid hO1; have HB1 := Lib.hid hb1; have HR1 := Lib.hid hr1; clear hO1 hG1 hl1 hb1 hr1))
  have hsm : sumL [1, 97, 98, 99] = 4294967295 - crcL [1, 97, 98, 99] 4294967295 := rfl
  refine (cSum_any A1 c1 [1, 97, 98, 99] w1 (by decide) HR1.out).mono ?_
  rw [← hsm]
  have hsb : sumL [1, 97, 98, 99] ≤ 4294967295 := by rw [hsm]; omega
  have hab : abcL = leB (maskI (sumL [1, 97, 98, 99])).toNat 4 ++ [3, 0] ++ [1, 97, 98, 99] := rfl
  have HAB := Lib.hid hab
  clear hsm hab
  generalize sumL [1, 97, 98, 99] = sm at *
  rintro e w2 ⟨rfl, hb2⟩
  have HB2 := Lib.hid (HB1.out.trans (hb2.mono HB1.out.size))
  have HR2 := Lib.hid (HR1.out.next hb2)
  have hs2 := hb2.size
  clear hb2
  go_wp2_with fail
  refine (cMask_any sm _ (by omega) (by omega)).mono ?_
  have hmb := maskI_bd sm
  generalize maskI sm = M at *
  obtain ⟨m, rfl⟩ : ∃ m : Nat, M = (m : Int) := ⟨M.toNat, by omega⟩
  rw [Int.toNat_natCast] at HAB
  rintro e w3 ⟨rfl, rfl⟩
  go_wp2_with fail
  refine (cFixed32_any m _ (by omega)).mono ?_
  rintro e w4 ⟨v4, rfl, hb4, ho4⟩
  obtain ⟨A4, c4, rfl, -⟩ := ho4.rd
  have HB4 := Lib.hid (HB2.out.trans (hb4.mono HB2.out.size))
  have HR4 := Lib.hid (HR2.out.next hb4)
  have HO4 := Lib.hid ((ho4.base_le HB2.out.size).alloc (.cells #[.int .u8 3, .int .u8 0] 5))
  have HB5 := Lib.hid (HB4.out.alloc HB4.out.size (.cells #[.int .u8 3, .int .u8 0] 5))
  have HR5 := Lib.hid (HR4.out.next ((Below.refl _ w4).alloc (Nat.le_refl _) (.cells #[.int .u8 3, .int .u8 0] 5)))
  have hne : ∀ a : Addr, A1 = some a → some a.block ≠ (Value.slice A4 4 c4).ownBlock := fun a ha h => by
    have h1 := (HO1.out.lt a.block (by rw [ha]; rfl)).2
    have h2 := (ho4.lt a.block h.symm).1
    have h3 := hs2
    omega
  have HNE := Lib.hid hne
  clear hb4 ho4 hmb hne
  go_wp2_with (at_builtin; first | (refine wpList_append _ rfl (.tmp 33) (.tmp 41) 22 22 rfl w.heap.size 5 i0 (.int .u8 0) 1 1 Try.underlying22 hi hz0 hz1 hz2 rfl (by decide) _ _ _ rfl HO4.out _ 2 [.int .u8 3, .int .u8 0] rfl (Src.slice _ Try.underlying22 rfl (Rd.new _ _ _)) ?c1 ?c2 ?c3 ?c4 ?_; (case c1 => simp [Value.oneCell']); (case c2 => (unfold maxLen; omega)); (case c3 => omega); (case c4 => exact HB5.out.size); intro v6 w6 hO6 hG6 hl6; have hb6 := HB5.out.grown hG6 HB5.out.size (fun k hk => (HO4.out.lt k hk).1); have HR6 := Lib.hid ((HR5.out.grown hG6 (Nat.le_refl _) HNE.out).more hG6.size); have HO6 := Lib.hid hO6; have HB6 := Lib.hid hb6; clear hO6 hG6 hl6 hb6) | (refine wpList_append _ rfl (.tmp 43) (.tmp 44) 22 22 rfl w.heap.size 5 i0 (.int .u8 0) 1 1 Try.underlying22 hi hz0 hz1 hz2 rfl (by decide) _ _ _ rfl HO6.out _ 4 _ rfl (Src.slice _ Try.underlying22 rfl HR6.out) ?c1 ?c2 ?c3 ?c4 ?_; (case c1 => simp [byteV, Value.oneCell']); (case c2 => (unfold maxLen; omega)); (case c3 => omega); (case c4 => exact HB6.out.size); intro v7 w7 hO7 hG7 hl7; have hb7 := HB6.out.grown hG7 HB6.out.size (fun k hk => (HO6.out.lt k hk).1); have HO7 := Lib.hid hO7; have HB7 := Lib.hid hb7; clear hO7 hG7 hl7 hb7))
  go_ret
  refine ⟨_, rfl, HB7.out, ?_⟩
  rw [HAB.out]
  simpa [byteV] using HO7.out
set_option maxHeartbeats 2000000 in
set_option maxRecDepth 100000 in
theorem wAdd_abc (g c : Nat) (A : Option Addr) (w : World) (hblk : Blk w g 47 #[.int .u32 7, .bool false, .int .i64 0]) (hc3 : 3 ≤ c) (hbs : Bs w w.heap.size A [97, 98, 99]) :
    Calls Try.prog 18 #[.pointer (some ⟨g, 0, none⟩), .slice A 3 c] w fun e w' => ∃ v, e = .returned (.tuple #[v, .int .i64 0]) ∧ w.grownBy w' (some g) ∧ Own w' w.heap.size 5 1 v 10 (abcL.map byteV) ∧ Blk w' g 47 #[.int .u32 7, .bool false, .int .i64 10] := by
  obtain ⟨i0, hi, hz0, hz1, hz2⟩ := info_parts info_byte
  obtain ⟨bb, off, rfl, hbb⟩ := rd_addr hbs (by simp)
  have c1 := hblk.cell 1
  have c2 := hblk.cell 2
  simp only [List.getElem?_toArray, List.getElem?_cons_zero, List.getElem?_cons_succ] at c1 c2
  have hF := wWFrag_abc g c (some ⟨bb, off, none⟩) w c1 hblk.lt hbs
  have HF := Lib.hid hF
  have HK := Lib.hid hblk
  have hgl := hblk.lt
  clear hF hblk hbs
  go_enter Try.func18, Try.ntmps18
  go_wp2_with fail
  refine wp_loop_rounds 1 ?_
  rw [rounds_succ]
  go_wp2_with fail
  refine HF.out.mono ?_
  rintro e w1 ⟨v1, rfl, hb1, ho1⟩
  obtain ⟨A1, d1, rfl, -, -, hr1⟩ := ho1.rd
  have hk1 := HK.out.below hb1 hgl
  have c2 := hk1.cell 2
  have f2 := hk1.frozen 2
  simp only [List.getElem?_toArray, List.getElem?_cons_zero, List.getElem?_cons_succ] at c2
  have HK1 := Lib.hid hk1
  have HB1 := Lib.hid hb1
  have HR1 := Lib.hid hr1
  clear hb1 ho1 hr1 hk1 c1
  go_wp2_with (at_builtin; go_loud (refine wpList_append _ rfl (.tmp 62) (.tmp 68) 22 22 rfl w.heap.size 5 i0 (.int .u8 0) 1 1 Try.underlying22 hi hz0 hz1 hz2 rfl (by decide) _ _ _ rfl (Own.nil w1 w.heap.size 5 1) _ 10 _ rfl (Src.slice _ Try.underlying22 (by decide +kernel) HR1.out) ?c1 ?c2 ?c3 ?c4 ?_; (case c1 => (intro u hu; obtain ⟨x, _, rfl⟩ := List.mem_map.1 hu; rfl)); (case c2 => (unfold maxLen; omega)); (case c3 => omega); (case c4 => exact HB1.out.size); intro v2 w2 hO2 hG2 hl2; have hG3 : w1.grownBy w2 (Value.slice none 0 0).ownBlock := hG2; have hk2 := HK1.out.grown hG3 (by simp [Value.ownBlock]); have c2 := hk2.cell 2; have f2 := hk2.frozen 2; simp only [List.getElem?_toArray, List.getElem?_cons_zero, List.getElem?_cons_succ] at c2; obtain ⟨A2, d2, rfl, -⟩ := hO2.rd; have HK2 := Lib.hid hk2; have HO2 := Lib.hid hO2; have HG2 := Lib.hid hG3; have hl3 : (Value.slice A2 10 d2).ownBlock = (Value.slice none 0 0).ownBlock ∨ (Value.slice A2 10 d2).ownBlock = some w1.heap.size := hl2; have HL2 := Lib.hid hl3; clear hO2 hG2 hG3 hl2 hl3 hk2))
  all_goals (
    have hfar : (Value.slice A2 10 d2).ownBlock ≠ some g := fun h => by
      have := HB1.out.size
      rcases HL2.out with h2 | h2
      · rw [h2] at h; cases h
      · rw [h2] at h; injection h with h; omega
    have ho := HO2.out
    simp only [Nat.zero_add, List.nil_append] at ho
    go_ret2
    exact ⟨_, rfl, grow_then (grow_then (grow_below HB1.out (some g)) HG2.out (.inr fun j h => by cases h)) (grow_set g 2 _) (.inl rfl), ho.far hfar _, HK2.out.set_ 2 _⟩)
set_option maxHeartbeats 2000000 in
set_option maxRecDepth 100000 in
theorem lives05_any (w : World) : Calls Try.prog 10 #[] w fun e w' => e = .returned (.bool true) ∧ Below w.heap.size w w' := by
  have hN : Calls Try.prog 17 #[.int .u32 7, .bool false] w fun e w' => e = .returned (.pointer (some ⟨w.heap.size, 0, none⟩)) ∧ w' = w.alloc (.cells #[.int .u32 7, .bool false, .int .i64 0] 47) := by
    go_enter Try.func17, Try.ntmps17
    go_wp2
    go_ret
    exact ⟨rfl, rfl⟩
  have HN := Lib.hid hN
  clear hN
  have hcv : (convert 22 22 (.slice (some ⟨w.heap.size + 1, 0, none⟩) 3 3)).run Try.prog ((w.alloc (.cells #[.int .u32 7, .bool false, .int .i64 0] 47)).alloc (.cells #[.int .u8 97, .int .u8 98, .int .u8 99] 5)) =
      .ok (.slice (some ⟨w.heap.size + 1, 0, none⟩) 3 3) ((w.alloc (.cells #[.int .u32 7, .bool false, .int .i64 0] 47)).alloc (.cells #[.int .u8 97, .int .u8 98, .int .u8 99] 5 (3, 4))) := by
    have := Lib.run_convert_bytes_const (P := Try.prog) (w.alloc (.cells #[.int .u32 7, .bool false, .int .i64 0] 47)) 22 5 #[.int .u8 97, .int .u8 98, .int .u8 99] 3 3 Try.underlying22 Try.underlying5
    simpa using this
  have hk0 := (Blk.new w 47 #[.int .u32 7, .bool false, .int .i64 0]).alloc (.cells #[.int .u8 97, .int .u8 98, .int .u8 99] 5 (3, 4))
  have hr0 := Rd.new (w.alloc (.cells #[.int .u32 7, .bool false, .int .i64 0] 47)) #[.int .u8 97, .int .u8 98, .int .u8 99] 5 (3, 4)
  have hb0 : Below w.heap.size w ((w.alloc (.cells #[.int .u32 7, .bool false, .int .i64 0] 47)).alloc (.cells #[.int .u8 97, .int .u8 98, .int .u8 99] 5 (3, 4))) := ((Below.refl _ w).alloc (Nat.le_refl _) _).alloc (by simp) _
  have HA := Lib.hid (wAdd_abc w.heap.size 3 _ _ hk0 (Nat.le_refl _) (by show Rd _ _ _ (([97, 98, 99] : List UInt8).map byteV); simpa [byteV] using hr0))
  have HB0 := Lib.hid hb0
  clear hk0 hr0 hb0
  go_enter Try.func10, Try.ntmps10
  go_wp2_with fail
  refine HN.out.mono ?_
  rintro e w1 ⟨rfl, rfl⟩
  go_wp2_with fail
  simp only [World.size_alloc] at HA
  refine HA.out.mono ?_
  rintro e w2 ⟨v2, rfl, hg2, ho2, hk2⟩
  obtain ⟨A2, d2, rfl, hd2, -, hr2⟩ := ho2.rd
  have HB2 := Lib.hid (HB0.out.grown hg2 HB0.out.size (fun k hk => by injection hk with hk; omega))
  have hz2 := hg2.size
  simp only [World.size_alloc] at hz2
  clear HA HB0 hg2 ho2
  have hlen : abcL.length = 10 := by decide +kernel
  have hR := wRead_any A2 d2 7 abcL w2 (by rw [hlen]; exact hd2) hr2
  rw [hlen, abcL_read] at hR
  have HR := Lib.hid hR
  have HK2 := Lib.hid hk2
  clear hR hr2 hk2 hlen
  go_wp2_with fail
  refine HR.out.mono ?_
  rintro e w3 ⟨ov, vs, rfl, hov, hels, hb3⟩
  obtain ⟨E, k, q, r⟩ := hels.at_ 0 (by simp)
  have hvl := hels.len
  have HVL := Lib.hid hvl
  obtain ⟨oA, oc, rfl, -, -, hor⟩ := hov.rd
  obtain ⟨b1, o1, rfl, hb1, t1⟩ := hor.at_ q
  rw [Nat.add_zero] at t1
  have hk3 := HK2.out.below hb3 HK2.out.lt
  have c2 := hk3.cell 2
  simp only [List.getElem?_toArray, List.getElem?_cons_zero, List.getElem?_cons_succ] at c2
  have cv : (convert 22 9 (.slice E 3 k)).run Try.prog w3 = .ok (.string ⟨#[97, 98, 99]⟩) w3 := run_toString (P := Try.prog) w3 22 9 5 E k w3.heap.size [97, 98, 99] Try.underlying22 Try.underlying5 Try.underlying9 r
  have HB3 := Lib.hid (HB2.out.trans (hb3.mono (by omega)))
  have hv1 : vs.length = 1 := hvl
  rw [hv1]
  have hAt : Calls Try.prog 9 #[.pointer (some ⟨w.heap.size, 0, none⟩)] w3 fun e w' => e = .returned (.int .i64 10) ∧ w' = w3 := by
    clear cv t1 q r hor hov hels hvl hv1
    go_enter Try.func9, Try.ntmps9
    go_wp2
    go_ret
    exact ⟨rfl, rfl⟩
  have HAT := Lib.hid hAt
  clear hAt hk3 hor hov hels hvl hv1 q r hb3 c2 HVL
  simp only [List.getElem_cons_zero, List.length_cons, List.length_nil] at t1
  go_wp2_with fail
  refine HAT.out.mono ?_
  rintro e w4 ⟨rfl, rfl⟩
  go_wp2_with fail
  go_ret
  exact ⟨ret_bool (by simp), HB3.out⟩
end Go.Proofs.Ytlcnachblcacjaa
