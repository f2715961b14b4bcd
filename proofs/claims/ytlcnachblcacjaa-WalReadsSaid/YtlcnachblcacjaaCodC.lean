/-
  The walks of the sums, and of Mask and Unmask, the program's and the document's.
-/
import Derived.Test.YtlcnachblcacjaaChk
import Derived.Test.YtlcnachblcacjaaCrc
import Derived.Test.YtlcnachblcacjaaMem
namespace Go.Proofs.Ytlcnachblcacjaa
open Go.RowKit

/-! ### Mask, Unmask -/
def rotL (x : Int) : Int := x * 32768 % 4294967296 + x / 131072
def rotR (x : Int) : Int := x * 131072 % 4294967296 + x / 32768
def maskI (x : Int) : Int := (rotR x + 2726488792) % 4294967296
def unmaskI (x : Int) : Int := rotL ((x - 2726488792) % 4294967296)
theorem or_comm32 (x y : Int) : bits .or .u32 x y = bits .or .u32 y x := by simp only [bits]; rw [BitVec.or_comm]
theorem wraps_u32 (n : Int) (h₀ : 0 ≤ n) (h₁ : n < 2 ^ 32) : IntKind.u32.wrap n = n := by rw [IntKind.wrap_u32]; omega
theorem or_rotL (x : Int) (h0 : 0 ≤ x) (h1 : x ≤ 4294967295) : bits .or .u32 (x * 32768 % 4294967296) (x / 131072) = rotL x :=
  bits_join .u32 32 (by decide) wraps_u32 15 _ _ (by omega) (by omega) (by omega) (by omega) (by omega) (by omega)
theorem or_rotR (x : Int) (h0 : 0 ≤ x) (h1 : x ≤ 4294967295) : bits .or .u32 (x * 131072 % 4294967296) (x / 32768) = rotR x :=
  bits_join .u32 32 (by decide) wraps_u32 17 _ _ (by omega) (by omega) (by omega) (by omega) (by omega) (by omega)
theorem rotL_bd (x : Int) (h0 : 0 ≤ x) (h1 : x ≤ 4294967295) : 0 ≤ rotL x ∧ rotL x ≤ 4294967295 := by unfold rotL; omega
theorem rotR_bd (x : Int) (h0 : 0 ≤ x) (h1 : x ≤ 4294967295) : 0 ≤ rotR x ∧ rotR x ≤ 4294967295 := by unfold rotR; omega
theorem maskI_bd (x : Int) : 0 ≤ maskI x ∧ maskI x ≤ 4294967295 := by unfold maskI; omega
theorem rotL_rotR (x : Int) (h0 : 0 ≤ x) (h1 : x ≤ 4294967295) : rotL (rotR x) = x := by
  have e : rotR x = x % 32768 * 131072 + x / 32768 := by unfold rotR; omega
  have e2 : x = x / 32768 * 32768 + x % 32768 := by omega
  rw [e]
  have b1 : 0 ≤ x % 32768 ∧ x % 32768 < 32768 := by omega
  have b2 : 0 ≤ x / 32768 ∧ x / 32768 < 131072 := by omega
  generalize x % 32768 = t at *
  generalize x / 32768 = q at *
  unfold rotL
  have e3 : (t * 131072 + q) / 131072 = t := by omega
  have e4 : (t * 131072 + q) * 32768 % 4294967296 = q * 32768 := by omega
  rw [e3, e4, e2]
theorem unmask_mask (x : Int) (h0 : 0 ≤ x) (h1 : x ≤ 4294967295) : unmaskI (maskI x) = x := by
  have hb := rotR_bd x h0 h1
  have e : (maskI x - 2726488792) % 4294967296 = rotR x := by unfold maskI; omega
  unfold unmaskI
  rw [e, rotL_rotR x h0 h1]
theorem rot_l (x : Int) (w : World) (h0 : 0 ≤ x) (h1 : x ≤ 4294967295) :
    Calls Try.prog 35 #[.int .u32 x, .int .i64 15] w fun e w' => e = .returned (.int .u32 (rotL x)) ∧ w' = w := by
  have e1 : bits .and .u64 15 31 = 15 := by decide
  have hr := or_rotL x h0 h1
  have HR := Lib.hid hr; clear hr
  go_enter Try.func35, Try.ntmps35
  go_wp2
  go_ret
  exact ⟨ret_int HR.out, rfl⟩
theorem rot_r (x : Int) (w : World) (h0 : 0 ≤ x) (h1 : x ≤ 4294967295) :
    Calls Try.prog 35 #[.int .u32 x, .int .i64 (-15)] w fun e w' => e = .returned (.int .u32 (rotR x)) ∧ w' = w := by
  have e1 : bits .and .u64 (IntKind.u64.wrap (-15)) 31 = 17 := by decide
  have hr := or_rotR x h0 h1
  have HR := Lib.hid hr; clear hr
  go_enter Try.func35, Try.ntmps35
  go_wp2
  go_ret
  exact ⟨ret_int HR.out, rfl⟩
theorem cMask_any (x : Int) (w : World) (h0 : 0 ≤ x) (h1 : x ≤ 4294967295) :
    Calls Try.prog 30 #[.int .u32 x] w fun e w' => e = .returned (.int .u32 (maskI x)) ∧ w' = w := by
  go_enter Try.func30, Try.ntmps30
  go_wp2_with (go_at_call 35; refine (rot_r _ _ h0 h1).mono ?_; rintro e w' ⟨rfl, rfl⟩)
  go_ret
  exact ⟨ret_int rfl, rfl⟩
theorem rMask_any (x : Int) (w : World) (h0 : 0 ≤ x) (h1 : x ≤ 4294967295) :
    Calls Try.prog 24 #[.int .u32 x] w fun e w' => e = .returned (.int .u32 (maskI x)) ∧ w' = w := by
  have hr : (bits .or .u32 (x / 32768) (x * 131072 % 4294967296) + 2726488792) % 4294967296 = maskI x := by rw [or_comm32, or_rotR x h0 h1]; rfl
  have HR := Lib.hid hr; clear hr
  go_enter Try.func24, Try.ntmps24
  go_wp2
  go_ret
  exact ⟨ret_int HR.out, rfl⟩
/-! ### Sum -/
theorem crcL_snoc (l : List UInt8) (x : UInt8) (r : Nat) : crcL (l ++ [x]) r = crcB (crcL l r) x.toNat := by unfold crcL; simp
theorem take_more (l : List UInt8) (k : Nat) (h : k < l.length) : l.take (k + 1) = l.take k ++ [l[k]] := by rw [List.take_succ_eq_append_getElem h]
theorem xor32 (a b : Nat) (ha : a ≤ 4294967295) (hb : b ≤ 4294967295) : bits .xor .u32 a b = ((a ^^^ b : Nat) : Int) := by
  rw [u32_xor] <;> first | omega | simp
theorem par32 (a : Nat) (ha : a ≤ 4294967295) : bits .and .u32 a 1 = ((a % 2 : Nat) : Int) := by
  have h := bits_mask .u32 32 (by decide) wraps_u32 1 (by decide) (a : Int) (by omega) (by omega)
  simp only [show (2 : Int) ^ 1 - 1 = 1 from rfl] at h
  rw [h]
  omega
theorem stp_odd (z : Nat) (hz : z ≤ 4294967295) (h : z % 2 = 1) : bits .xor .u32 ((z : Int) / 2) 2197175160 = (stp z : Int) := by
  have e := xor32 (z / 2) 2197175160 (by omega) (by omega)
  unfold stp
  rw [if_pos h, ← e]
  congr 1
theorem stp_even (z : Nat) (h : z % 2 = 0) : ((z : Int) / 2) = (stp z : Int) := by
  unfold stp
  rw [if_neg (by omega)]
  omega
theorem not32n (q : Nat) (hq : q ≤ 4294967295) : 4294967295 ^^^ q = 4294967295 - q := by
  have h1 := BitVec.toNat_not (x := BitVec.ofNat 32 q)
  rw [BitVec.not_def, BitVec.toNat_xor, BitVec.toNat_allOnes, BitVec.toNat_ofNat, Nat.mod_eq_of_lt (show q < 2 ^ 32 by omega)] at h1
  exact h1
theorem not32 (q : Nat) (hq : q ≤ 4294967295) : bits .xor .u32 IntKind.u32.max q = ((4294967295 - q : Nat) : Int) := by
  have e := xor32 4294967295 q (by omega) hq
  rw [not32n q hq] at e
  exact e
set_option maxHeartbeats 1000000 in
theorem rSum_any (A : Option Addr) (cap : Nat) (l : List UInt8) (B : Nat) (w : World) (hl : l.length ≤ 9223372036854775807) (hbs : Bs w B A l) :
    Calls Try.prog 25 #[.slice A l.length cap] w fun e w' => e = .returned (.int .u32 ((4294967295 - crcL l 4294967295 : Nat) : Int)) ∧ w' = w := by
  go_enter Try.func25, Try.ntmps25
  go_wp2
  go_loop [3, 4, 5, 6] (fun r i _ _ => ∃ (k : Nat) (q : Nat), k ≤ l.length ∧ q ≤ 4294967295 ∧ i = .int .i64 k ∧ r = .int .u32 q ∧ Hid (q = crcL (l.take k) 4294967295)) (fun _ i _ _ => l.length - (intOf i).toNat)
  case atStart => exact ⟨0, 4294967295, Nat.zero_le _, Nat.le_refl _, rfl, rfl, rfl⟩
  case round =>
    obtain ⟨k, q, hk, hq, rfl, rfl, HQ⟩ := hrel
    by_cases hlt : k < l.length
    · obtain ⟨b, off, x, rfl, _, hx, hc, HX⟩ := byte_at hbs hlt
      have hX := xor32 q x hq (by omega)
      have hy : q ^^^ x ≤ 4294967295 := by have := Nat.xor_lt_two_pow (n := 32) (x := q) (y := x) (by omega) (by omega); omega
      obtain ⟨y, HY⟩ : ∃ y, Hid (q ^^^ x = y) := ⟨_, rfl⟩
      rw [HY.out] at hX hy
      go_wp2
      go_loop [3, 5, 6] (fun r i _ => ∃ (j : Nat) (z : Nat), j ≤ 8 ∧ z ≤ 4294967295 ∧ i = .int .i64 j ∧ r = .int .u32 z ∧ Hid (z = stps j y)) (fun _ i _ => 8 - (intOf i).toNat)
      case atStart => exact ⟨0, y, Nat.zero_le _, hy, rfl, rfl, rfl⟩
      case round =>
        obtain ⟨j, z, hj, hz, rfl, rfl, HZ⟩ := hrel
        have hz1 : stp z ≤ 4294967295 := by have := stp_lt (r := z) (by omega); omega
        by_cases hj8 : j < 8
        · by_cases hp : z % 2 = 1
          · have ha := par32 z hz
            rw [hp] at ha
            have ho := stp_odd z hz hp
            go_wp2
            go_round
            case rel => exact ⟨j + 1, stp z, by omega, hz1, by go_num, rfl, by rw [HZ.out]; rfl⟩
            case measure => simp [intOf]; omega
          · have hp : z % 2 = 0 := by omega
            have ha := par32 z hz
            rw [hp] at ha
            have ho := stp_even z hp
            have HO := Lib.hid ho; clear ho
            go_wp2
            go_round
            case rel => exact ⟨j + 1, stp z, by omega, hz1, by go_num, by rw [← HO.out], by rw [HZ.out]; rfl⟩
            case measure => simp [intOf]; omega
        · obtain rfl : j = 8 := by omega
          go_wp2
          go_round
          case rel => exact ⟨k + 1, z, by omega, hz, by go_num, rfl, by rw [take_more l k hlt, crcL_snoc, ← HQ.out, ← HX.out, HZ.out, ← HY.out]; rfl⟩
          case measure => simp [intOf]; omega
    · have hn := not32 q hq
      have HN := Lib.hid hn; clear hn
      go_wp2
      go_ret
      refine ⟨ret_int ?_, rfl⟩
      rw [HN.out, HQ.out, List.take_of_length_le (by omega)]
end Go.Proofs.Ytlcnachblcacjaa
