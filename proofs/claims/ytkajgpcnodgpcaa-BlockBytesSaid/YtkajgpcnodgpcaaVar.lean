/-
  The walks of Varint, the program's and the document's.
-/
import Derived.Test.YtkajgpcnodgpcaaCodE
import Derived.Lib.VarintBits
namespace Go.Proofs.Ytkajgpcnodgpcaa
set_option linter.unusedSimpArgs false
open Go.RowKit

def varB (n : Nat) : List UInt8 := if n < 128 then [UInt8.ofNat n] else UInt8.ofNat (n % 128 + 128) :: varB (n / 128)
termination_by n
decreasing_by omega
theorem varB_last {n : Nat} (h : n < 128) : varB n = [UInt8.ofNat n] := by rw [varB, if_pos h]
theorem varB_more {n : Nat} (h : ¬ n < 128) : varB n = UInt8.ofNat (n % 128 + 128) :: varB (n / 128) := by rw [varB, if_neg h]
theorem or128 : ∀ x : Fin 256, bits .or .u8 (x.val : Int) 128 = ((x.val % 128 + 128 : Nat) : Int) := by decide +kernel
theorem or128c (q : Nat) : bits .or .u8 ((q : Int) % 256) 128 = ((q % 128 + 128 : Nat) : Int) := by
  have h := or128 ⟨q % 256, by omega⟩
  dsimp only at h
  rw [show ((q : Int) % 256) = ((q % 256 : Nat) : Int) by omega, h]
  omega
theorem and127 (q : Nat) (h : q ≤ 18446744073709551615) : bits .and .u64 (q : Int) 127 = ((q % 128 : Nat) : Int) := by
  have h := bits_mask .u64 64 (by decide) wraps_u64 7 (by decide) (q : Int) (by omega) (by omega)
  simp only [show (2 : Int) ^ 7 - 1 = 127 from rfl] at h
  rw [h]
  omega
theorem or128r (q : Nat) : bits .or .u8 (((q % 128 : Nat) : Int) % 256) 128 = ((q % 128 + 128 : Nat) : Int) := by
  rw [or128c]; omega
theorem byteV_of' (m : Nat) (h : m < 256) : Value.int .u8 (m : Int) = byteV (UInt8.ofNat m) := (byteV_of m h).symm
theorem pow_step {l q n : Nat} (h : 2 ^ l * q ≤ n) : 2 ^ (l + 1) * (q / 128) ≤ n := by
  refine Nat.le_trans ?_ h
  rw [Nat.pow_succ, Nat.mul_assoc]
  exact Nat.mul_le_mul_left _ (by omega)
theorem pow_len {l q n : Nat} (h : 2 ^ l * q ≤ n) (hq : 0 < q) (hn : n ≤ 18446744073709551615) : l < 64 := by
  rcases Nat.lt_or_ge l 64 with h1 | h1
  · exact h1
  · exfalso
    have h2 : 2 ^ 64 ≤ 2 ^ l := Nat.pow_le_pow_right (by omega) h1
    have h3 : 2 ^ l ≤ 2 ^ l * q := Nat.le_mul_of_pos_right _ hq
    omega

theorem val_last {k : Nat} (h : k < 128) : Value.int .u8 ((k : Int) % 256) = byteV (UInt8.ofNat k) := by
  rw [show ((k : Int) % 256) = (k : Int) by omega, byteV_of k (by omega)]
theorem val_more (k : Nat) : Value.int .u8 ((k % 128 + 128 : Nat) : Int) = byteV (UInt8.ofNat (k % 128 + 128)) := (byteV_of _ (by omega)).symm

set_option maxHeartbeats 1000000 in
theorem cVarint_any (n : Nat) (w : World) (hn : n ≤ 18446744073709551615) :
    Calls Try.prog 54 #[.int .u64 n] w fun e w' => ∃ v, e = .returned v ∧ Below w.heap.size w w' ∧ Own w' w.heap.size 5 1 v (varB n).length ((varB n).map byteV) := by
  obtain ⟨i0, hi, hz0, hz1, hz2⟩ := info_parts info_byte
  have HN := Lib.hid hn; clear hn
  go_enter Try.func54, Try.ntmps54
  go_wp2_with fail
  skip
  go_loopw [0, 3] (fun q b wr => ∃ (k : Nat) (v : Value) (pre : List UInt8), q = .int .u64 k ∧ v = b ∧ k ≤ 18446744073709551615 ∧ Hid (2 ^ pre.length * k ≤ n) ∧ Hid (0 < pre.length → 0 < k) ∧ Hid (Below w.heap.size w wr) ∧ Hid (Own wr w.heap.size 5 1 v pre.length (pre.map byteV)) ∧ Hid (varB n = pre ++ varB k)) (fun q _ _ => (intOf q).toNat)
  case atStart => exact ⟨n, _, [], rfl, rfl, HN.out, by simp [Hid], by simp [Hid], Below.refl _ _, Own.nil _ _ _ _, rfl⟩
  case round =>
    obtain ⟨k, v, pre, rfl, rfl, hk, HP, H0, HBe, HOw, HV⟩ := hrel
    have hlen : pre.length < 64 := by
      rcases Nat.eq_zero_or_pos pre.length with h | h
      · omega
      · exact pow_len HP.out (H0.out h) HN.out
    by_cases hlt : k < 128
    · have hd : decide ((128 : Int) ≤ (k : Int)) = false := by simp; omega
      have hval := val_last hlt
      have HW := Lib.hid hval; clear hval
      have hlast := HV.out
      rw [varB_last hlt] at hlast
      have HV2 := Lib.hid hlast; clear hlast
      clear hlt
      go_wp2_with (at_builtin; go_loud (refine wpList_append _ rfl _ _ 23 23 rfl w.heap.size 5 i0 (.int .u8 0) 1 1 Try.underlying23 hi hz0 hz1 hz2 rfl (by decide) v pre.length _ rfl (HOw.out.alloc _) _ 1 _ rfl (Src.slice _ Try.underlying23 rfl (Rd.new _ _ _)) ?c1 ?c2 ?c3 ?c4 ?_; (case c1 => (simp [Value.oneCell'])); (case c2 => (unfold maxLen; omega)); (case c3 => omega); (case c4 => (have := HBe.out.size; simp; omega)); intro v' w1 hO1 hG hl1))
      go_wp2
      go_ret
      rw [HW.out] at hO1
      exact ⟨_, rfl, below_append (HBe.out.alloc HBe.out.size _) (HOw.out.alloc _) (Nat.le_refl _) (by have := HBe.out.size; simp; omega) hG, by rw [HV2.out, List.map_append, List.length_append]; exact hO1⟩
    · have hd : decide ((128 : Int) ≤ (k : Int)) = true := by simp; omega
      have hq : (k : Int) / 128 = ((k / 128 : Nat) : Int) := by omega
      have hq0 : 0 < k / 128 := by omega
      have hqk : k / 128 < k := by omega
      have ho := or128c k
      have hmore := HV.out
      rw [varB_more hlt] at hmore
      have HV2 := Lib.hid hmore; clear hmore
      have hstep := pow_step HP.out
      have HS := Lib.hid hstep; clear hstep
      have hval := val_more k
      have HW := Lib.hid hval; clear hval
      clear hlt
      generalize k / 128 = k2 at *
      generalize k % 128 + 128 = m at *
      generalize k % 128 = r at *
      go_wp2_with (at_builtin; go_loud (refine wpList_append _ rfl _ _ 23 23 rfl w.heap.size 5 i0 (.int .u8 0) 1 1 Try.underlying23 hi hz0 hz1 hz2 rfl (by decide) v pre.length _ rfl (HOw.out.alloc _) _ 1 _ rfl (Src.slice _ Try.underlying23 rfl (Rd.new _ _ _)) ?c1 ?c2 ?c3 ?c4 ?_; (case c1 => (simp [Value.oneCell'])); (case c2 => (unfold maxLen; omega)); (case c3 => omega); (case c4 => (have := HBe.out.size; simp; omega)); intro v' w1 hO1 hG hl1))
      go_roundw
      case rel =>
        rw [HW.out] at hO1
        exact ⟨k2, v', pre ++ [UInt8.ofNat m], rfl, rfl, by omega, by rw [Hid, List.length_append]; exact HS.out, fun _ => hq0, below_append (HBe.out.alloc HBe.out.size _) (HOw.out.alloc _) (Nat.le_refl _) (by have := HBe.out.size; simp; omega) hG, by rw [Hid, List.map_append, List.length_append]; exact hO1, by rw [Hid, HV2.out]; simp⟩
      case measure => simp [intOf]; omega
set_option maxHeartbeats 1000000 in
theorem rVarint_any (n : Nat) (w : World) (hn : n ≤ 18446744073709551615) :
    Calls Try.prog 78 #[.int .u64 n] w fun e w' => ∃ v, e = .returned v ∧ Below w.heap.size w w' ∧ Own w' w.heap.size 5 1 v (varB n).length ((varB n).map byteV) := by
  obtain ⟨i0, hi, hz0, hz1, hz2⟩ := info_parts info_byte
  have HN := Lib.hid hn; clear hn
  go_enter Try.func78, Try.ntmps78
  go_wp2_with fail
  have hO : Own (w.alloc (.cells #[] 5)) w.heap.size 5 1 (.slice (some ⟨w.heap.size, 0, none⟩) 0 0) 0 [] :=
    (Blk.new w _ _).own (Nat.le_refl _) (Nat.le_refl _) (by unfold maxLen; omega) rfl (by simp)
  have HO := Lib.hid hO; clear hO
  have hbl : Below w.heap.size w (w.alloc (.cells #[] 5)) := (Below.refl _ _).alloc (Nat.le_refl _) _
  have HL := Lib.hid hbl; clear hbl
  generalize w.alloc (.cells #[] 5) = w0 at HO HL ⊢
  go_loopw [0, 3] (fun q b wr => ∃ (k : Nat) (v : Value) (pre : List UInt8), q = .int .u64 k ∧ v = b ∧ k ≤ 18446744073709551615 ∧ Hid (2 ^ pre.length * k ≤ n) ∧ Hid (0 < pre.length → 0 < k) ∧ Hid (Below w.heap.size w wr) ∧ Hid (Own wr w.heap.size 5 1 v pre.length (pre.map byteV)) ∧ Hid (varB n = pre ++ varB k)) (fun q _ _ => (intOf q).toNat)
  case atStart => exact ⟨n, _, [], rfl, rfl, HN.out, by simp [Hid], by simp [Hid], HL.out, HO.out, rfl⟩
  case round =>
    obtain ⟨k, v, pre, rfl, rfl, hk, HP, H0, HBe, HOw, HV⟩ := hrel
    have hlen : pre.length < 64 := by
      rcases Nat.eq_zero_or_pos pre.length with h | h
      · omega
      · exact pow_len HP.out (H0.out h) HN.out
    by_cases hlt : k < 128
    · have hd : decide ((128 : Int) ≤ (k : Int)) = false := by simp; omega
      have hval := val_last hlt
      have HW := Lib.hid hval; clear hval
      have hlast := HV.out
      rw [varB_last hlt] at hlast
      have HV2 := Lib.hid hlast; clear hlast
      clear hlt
      go_wp2_with (at_builtin; go_loud (refine wpList_append _ rfl _ _ 23 23 rfl w.heap.size 5 i0 (.int .u8 0) 1 1 Try.underlying23 hi hz0 hz1 hz2 rfl (by decide) v pre.length _ rfl (HOw.out.alloc _) _ 1 _ rfl (Src.slice _ Try.underlying23 rfl (Rd.new _ _ _)) ?c1 ?c2 ?c3 ?c4 ?_; (case c1 => (simp [Value.oneCell'])); (case c2 => (unfold maxLen; omega)); (case c3 => omega); (case c4 => (have := HBe.out.size; simp; omega)); intro v' w1 hO1 hG hl1))
      go_wp2
      go_ret
      rw [HW.out] at hO1
      exact ⟨_, rfl, below_append (HBe.out.alloc HBe.out.size _) (HOw.out.alloc _) (Nat.le_refl _) (by have := HBe.out.size; simp; omega) hG, by rw [HV2.out, List.map_append, List.length_append]; exact hO1⟩
    · have hd : decide ((128 : Int) ≤ (k : Int)) = true := by simp; omega
      have hq : (k : Int) / 128 = ((k / 128 : Nat) : Int) := by omega
      have hq0 : 0 < k / 128 := by omega
      have hqk : k / 128 < k := by omega
      have ha := and127 k hk
      have ho := or128r k
      have ho2 : bits .or .u8 ((k % 128 : Nat) : Int) 128 = ((k % 128 + 128 : Nat) : Int) := by have h := or128r k; rwa [show (((k % 128 : Nat) : Int) % 256) = ((k % 128 : Nat) : Int) by omega] at h
      have hmore := HV.out
      rw [varB_more hlt] at hmore
      have HV2 := Lib.hid hmore; clear hmore
      have hstep := pow_step HP.out
      have HS := Lib.hid hstep; clear hstep
      have hval := val_more k
      have HW := Lib.hid hval; clear hval
      clear hlt
      generalize k / 128 = k2 at *
      generalize k % 128 + 128 = m at *
      generalize k % 128 = r at *
      go_wp2_with (at_builtin; go_loud (refine wpList_append _ rfl _ _ 23 23 rfl w.heap.size 5 i0 (.int .u8 0) 1 1 Try.underlying23 hi hz0 hz1 hz2 rfl (by decide) v pre.length _ rfl (HOw.out.alloc _) _ 1 _ rfl (Src.slice _ Try.underlying23 rfl (Rd.new _ _ _)) ?c1 ?c2 ?c3 ?c4 ?_; (case c1 => (simp [Value.oneCell'])); (case c2 => (unfold maxLen; omega)); (case c3 => omega); (case c4 => (have := HBe.out.size; simp; omega)); intro v' w1 hO1 hG hl1))
      go_roundw
      case rel =>
        rw [HW.out] at hO1
        exact ⟨k2, v', pre ++ [UInt8.ofNat m], rfl, rfl, by omega, by rw [Hid, List.length_append]; exact HS.out, fun _ => hq0, below_append (HBe.out.alloc HBe.out.size _) (HOw.out.alloc _) (Nat.le_refl _) (by have := HBe.out.size; simp; omega) hG, by rw [Hid, List.map_append, List.length_append]; exact hO1, by rw [Hid, HV2.out]; simp⟩
      case measure => simp [intOf]; omega

theorem cFixed32_any (n : Nat) (w : World) (hn : n ≤ 4294967295) :
    Calls Try.prog 55 #[.int .u32 n] w fun e w' => ∃ v, e = .returned v ∧ Below w.heap.size w w' ∧ Own w' w.heap.size 5 1 v 4 ((leB n 4).map byteV) := by
  go_enter Try.func55, Try.ntmps55
  go_wp2_with fail
  refine (fixed_any n 4 _ (by omega) (by omega)).mono ?_
  rintro e w1 ⟨g, c, rfl, hb, _, ho⟩
  go_wp2_with fail
  go_ret
  exact ⟨_, rfl, hb, ho⟩
end Go.Proofs.Ytkajgpcnodgpcaa
