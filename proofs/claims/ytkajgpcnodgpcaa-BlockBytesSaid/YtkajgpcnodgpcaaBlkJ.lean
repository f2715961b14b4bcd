/-
  The program's Size and Build.
-/
import Derived.Test.YtkajgpcnodgpcaaBlkI
import Derived.Deep.RegionHeld3
import Derived.Deep.DrawnRows
namespace Go.Proofs.Ytkajgpcnodgpcaa
set_option linter.unusedSimpArgs false
set_option linter.unusedVariables false
open Go.RowKit Go.IntWalk
attribute [local go_sem ↓] Go.wp_at_zero Go.wp_at_succ

theorem WBd.step {R : Nat} {st : Wst} {k : Nat} {kl : List UInt8} {v : ByteArray} (h : WBd st k) (hk : kl.length ≤ 1032) (hv : v.size ≤ 16384) : WBd (addE R st kl v) (k + 1) := by
  obtain ⟨hn, hbl, hwl, hll, hwx⟩ := h
  have hle : ∀ N, N ≤ kl.length → (entL kl v N).length ≤ 4 * kl.length + 2 * v.size + 3 := fun N hN => entL_len kl v N hN
  unfold addE
  refine ⟨by show st.n + 1 = k + 1; omega, ?_, ?_, by show kl.length ≤ 2000; omega, ?_⟩
  · show (st.b ++ entL kl v _).length ≤ (k + 1) * 40000
    have := hle (if st.n % R = 0 then 0 else comL st.last kl) (by split; omega; exact (comL_le _ _).2)
    rw [List.length_append]; omega
  · show (if st.n % R = 0 then st.ws ++ [st.b.length] else st.ws).length ≤ k + 1
    split
    · rw [List.length_append]; simp; omega
    · omega
  · show ∀ x ∈ (if st.n % R = 0 then st.ws ++ [st.b.length] else st.ws), x ≤ (k + 1) * 40000
    intro x hx
    split at hx
    · rcases List.mem_append.1 hx with h | h
      · exact Nat.le_trans (hwx x h) (Nat.mul_le_mul_right _ (Nat.le_succ k))
      · rw [List.mem_singleton] at h; rw [h]; exact Nat.le_trans hbl (Nat.mul_le_mul_right _ (Nat.le_succ k))
    · exact Nat.le_trans (hwx x hx) (Nat.mul_le_mul_right _ (Nat.le_succ k))
theorem new_Wr (w : World) (R : Nat) : Wr (w.alloc (.cells #[.int .i64 R, .int .i64 0, .slice none 0 0, .slice none 0 0, .slice none 0 0] 63)) w.heap.size w.heap.size R ⟨0, [], [], []⟩ (.slice none 0 0) (.slice none 0 0) (.slice none 0 0) :=
  ⟨Blk.new w _ _, Nat.le_refl _, ⟨_, _, rfl, Rd.nil⟩, Own.nil _ _ _ _, Own.nil _ _ _ _, .inl rfl, by simp [Value.ownBlock], by simp [Value.ownBlock]⟩
theorem Wr.move {w w1 : World} {base g R : Nat} {st : Wst} {lv bv wv : Value} (h : Wr w base g R st lv bv wv) (hb : Below w.heap.size w w1) : Wr w1 base g R st lv bv wv := by
  obtain ⟨hblk, hbg, ⟨A, c, hl, hlr⟩, hob, how, hnb, hbg2, hwg⟩ := h
  exact ⟨hblk.below hb hblk.lt, hbg, ⟨A, c, hl, hlr.next hb⟩, hob.keep hb (Nat.le_refl _), how.keep hb (Nat.le_refl _), hnb, hbg2, hwg⟩
set_option maxHeartbeats 4000000 in
set_option maxRecDepth 100000 in
theorem bSize_any (R : Int) (l : List E) (A : Option Addr) (cap : Nat) (w : World) (hll : l.length ≤ 140737488351240) (hs : ∀ e ∈ l, 0 ≤ e.k.s)
    (hr : Rd w w.heap.size A (entsC l)) :
    Calls Try.prog 9 #[.int .i64 R, .slice A l.length cap] w fun e w' => e = .returned (.tuple #[.int .i64 ((sizeR R l).1 : Nat), .int .i64 (sizeR R l).2]) ∧ Below w.heap.size w w' := by
  by_cases h1 : R < 1
  · have q1 : decide (R < 1) = true := by simpa using h1
    have hz : sizeR R l = (0, 1) := by unfold sizeR; rw [if_pos (.inl h1)]
    rw [hz]
    go_enter Try.func9, Try.ntmps9
    go_wp2
    go_ret2
    exact ⟨rfl, Below.refl _ _⟩
  by_cases h2 : 1024 < R
  · have q1 : decide (R < 1) = false := by simpa using h1
    have q2 : decide (1024 < R) = true := by simpa using h2
    have hz : sizeR R l = (0, 1) := by unfold sizeR; rw [if_pos (.inr h2)]
    rw [hz]
    go_enter Try.func9, Try.ntmps9
    go_wp2
    go_ret2
    exact ⟨rfl, Below.refl _ _⟩
  have q1 : decide (R < 1) = false := by simpa using h1
  have q2 : decide (1024 < R) = false := by simp; omega
  by_cases h3 : 65536 < l.length
  · have q3 : decide ((65536 : Int) < (l.length : Int)) = true := by simp; omega
    have hz : sizeR R l = (0, 2) := by unfold sizeR; rw [if_neg (by omega), if_pos h3]
    rw [hz]
    go_enter Try.func9, Try.ntmps9
    go_wp2
    go_ret2
    exact ⟨rfl, Below.refl _ _⟩
  have q3 : decide ((65536 : Int) < (l.length : Int)) = false := by simp; omega
  have hz : sizeR R l = if chkS l ≠ 0 then (0, chkS l) else ((endL (wst R.toNat l)).length, 0) := by unfold sizeR; rw [if_neg (by omega), if_neg h3]
  obtain ⟨R', hR'⟩ : ∃ R' : Nat, R = (R' : Int) := ⟨R.toNat, by omega⟩
  subst hR'
  rw [Int.toNat_natCast] at hz
  generalize sizeR (R' : Int) l = rz at *
  have HZ := Lib.hid hz; clear hz
  go_enter Try.func9, Try.ntmps9
  go_wp2_with fail
  have HW0 := Lib.hid (new_Wr w R')
  go_loopw [8, 9, 10, 25] (fun _ _ _ s25 wr => ∃ (k : Nat) (lv bv wv : Value), k ≤ l.length ∧ s25 = .int .i64 k ∧ Hid (Below w.heap.size w wr) ∧ Hid (Wr wr w.heap.size w.heap.size R' (wst R' (l.take k)) lv bv wv) ∧ Hid (WBd (wst R' (l.take k)) k) ∧ Hid (chkS l = chkS (l.drop k))) (fun _ _ _ s25 _ => l.length - (intOf s25).toNat)
  case atStart => exact ⟨0, _, _, _, Nat.zero_le _, rfl, (Below.refl _ _).alloc (Nat.le_refl _) _, HW0.out, ⟨rfl, Nat.le_refl _, Nat.le_refl _, Nat.zero_le _, fun _ h => by cases h⟩, rfl⟩
  case round =>
    clear HW0
    obtain ⟨k, lv, bv, wv, hk, rfl, HB, HW, HD, HC⟩ := hrel
    by_cases hlt : k < l.length
    · obtain ⟨ab, ao, rfl, hab, t0, t1, t2, t3⟩ := ent_at hr hlt
      have hse := hs l[k] (List.getElem_mem hlt)
      have hst : wst R' (l.take (k + 1)) = addL R' (wst R' (l.take k)) l[k] := by rw [List.take_succ_eq_append_getElem hlt, wst_snoc]
      have hcd := chkS_drop l k hlt
      have HST := Lib.hid hst; clear hst
      have HCD := Lib.hid hcd; clear hcd
      generalize wst R' (l.take k) = st at *
      generalize l[k] = ee at *
      obtain ⟨⟨u, s, q⟩, v⟩ := ee
      dsimp only at t0 t1 t2 t3 hse
      have d0 := (HB.out.cell (p := ⟨ab, ao + k * 4, none⟩) hab).trans t0
      have d1 := (HB.out.cell (p := ⟨ab, ao + k * 4 + 1, none⟩) hab).trans t1
      have d2 := (HB.out.cell (p := ⟨ab, ao + k * 4 + 2, none⟩) hab).trans t2
      have d3 := (HB.out.cell (p := ⟨ab, ao + k * 4 + 3, none⟩) hab).trans t3
      clear t0 t1 t2 t3
      have hS := fun w => bShape_any ⟨⟨u, s, q⟩, v⟩ w hse
      simp only [entC] at hS
      have HSH := Lib.hid hS; clear hS
      have HAL := Lib.hid (HW.out.move ((Below.refl _ wr).alloc (Nat.le_refl _) (.cells #[.string u, .int .u64 s, .int .i64 q, .string v] 48)))
      have HB1 := Lib.hid (HB.out.alloc HB.out.size (.cells #[.string u, .int .u64 s, .int .i64 q, .string v] 48))
      go_wp2_with fail
      refine (HSH.out _).mono ?_
      rintro e w1 ⟨kv, rfl, hb1, hkv⟩
      have d3 : w1.cell? ⟨wr.heap.size, 3, none⟩ = some (.string v) := (hb1.cell (p := ⟨wr.heap.size, 3, none⟩) (by simp)).trans ((Blk.new wr _ _).cell 3)
      have hs1 := hb1.size
      simp only [World.size_alloc] at hs1
      have HB2 := Lib.hid (HB1.out.trans (hb1.mono HB1.out.size))
      have HW2 := Lib.hid (HAL.out.move hb1)
      clear hb1 d0 d1 d2 HB1 HAL HB
      by_cases hce : chkE ⟨⟨u, s, q⟩, v⟩ = 0
      · have hkv := hkv hce
        obtain ⟨hck, hvs⟩ := chkE_ok hce
        have hbd := chk_bounds hck hse
        dsimp only at hbd hvs
        have hel := encL_ok hck
        dsimp only at hel
        have hcd := HCD.out
        rw [if_pos hce] at hcd
        rw [hce]
        have hadd : addL R' st ⟨⟨u, s, q⟩, v⟩ = addE R' st (encL ⟨u, s, q⟩) v := rfl
        rw [hadd] at HST
        clear hadd hck HCD hce
        have HCD := Lib.hid hcd; clear hcd
        try dsimp only at hkv
        generalize encL ⟨u, s, q⟩ = kl at *
        have hkl : 8 ≤ kl.length ∧ kl.length ≤ 1032 := by omega
        clear hel hbd
        obtain ⟨kA, kc, rfl, hkc, -, hkr⟩ := hkv.rd
        obtain ⟨kg, kc', hke, hkg, hkg2⟩ := hkv.form (by omega)
        injection hke with hke1 hke2 hke3
        subst hke1
        clear hke2 hke3 kc' hkv
        simp only [World.size_alloc] at hkg
        have hsw := HW.out
        obtain ⟨hblk, hbg, -, hob, how, -, -, -⟩ := hsw
        have hbl := hblk.lt
        have hob1 := fun k hk => (hob.lt k hk).2
        have how1 := fun k hk => (how.lt k hk).2
        obtain ⟨hdn, hdb, hdw, hdl, hdx⟩ := HD.out
        have HADD := Lib.hid (bAdd_any w1 w.heap.size w.heap.size R' st lv bv wv kg kc kl v (by omega) (by omega) HB2.out.size HW2.out (by omega) (by omega) (by omega) hdl hkr (by omega) (by omega) hkc (by omega) hkg2 (fun h => by have := hob1 _ h.symm; omega) (fun h => by have := how1 _ h.symm; omega) (by omega))
        have HWB := Lib.hid (HD.out.step (R := R') (kl := kl) (v := v) (by omega) hvs)
        clear hob how hob1 how1 hdn hdb hdw hdl hdx hkr HD HW
        go_wp2_with fail
        refine HADD.out.mono ?_
        rintro e w3 ⟨rfl, ⟨lv3, bv3, wv3, hW3⟩, hb3, hz3⟩
        have HW3 := Lib.hid hW3
        have HB3 := Lib.hid (HB2.out.trans hb3)
        clear hW3 hb3
        go_wp2_with fail
        go_roundw
        case rel => exact ⟨k + 1, lv3, bv3, wv3, by omega, by go_num, HB3.out, by rw [HST.out]; exact HW3.out, by rw [HST.out]; exact HWB.out, by rw [HC.out]; exact HCD.out⟩
        case measure => simp [intOf]; omega
      · have hcb : (chkE ⟨⟨u, s, q⟩, v⟩ == 0) = false := by simpa using hce
        have hcd := HCD.out
        rw [if_neg hce] at hcd
        generalize chkE ⟨⟨u, s, q⟩, v⟩ = ce at *
        have hq : rz = (0, ce) := by rw [HZ.out, HC.out, hcd, if_pos hce]
        subst hq
        clear hcd
        go_wp2
        go_ret2
        exact ⟨rfl, HB2.out⟩
    · obtain rfl : k = l.length := by omega
      have hc0 : chkS l = 0 := by rw [HC.out, List.drop_length]; rfl
      have hz := HZ.out
      rw [if_neg (by simp [hc0])] at hz
      rw [List.take_length] at HW HD
      obtain ⟨hdn, hdb, hdw, hdl, hdx⟩ := HD.out
      have HEND := Lib.hid (bEnd_any wr w.heap.size w.heap.size R' _ lv bv wv HB.out.size HW.out (by omega) (by omega) (fun x hx => by have := hdx x hx; omega))
      clear hdn hdb hdw hdl hdx HD HW HC hc0 HZ
      generalize endL (wst R' l) = res at *
      subst hz
      go_wp2_with fail
      refine HEND.out.mono ?_
      rintro e w3 ⟨v3, rfl, hb3, hz3, hv3⟩
      obtain ⟨vA, vc, rfl, -⟩ := hv3.rd
      have HB3 := Lib.hid (HB.out.trans hb3)
      clear hb3 hv3
      go_wp2_with fail
      go_ret2
      exact ⟨rfl, HB3.out⟩
end Go.Proofs.Ytkajgpcnodgpcaa
