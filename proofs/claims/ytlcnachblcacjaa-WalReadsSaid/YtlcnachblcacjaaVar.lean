/-
  The walks of Varint, the program's and the document's.
-/
import Derived.Test.YtlcnachblcacjaaCodE
import Derived.Lib.VarintBits
namespace Go.Proofs.Ytlcnachblcacjaa
set_option linter.unusedSimpArgs false
open Go.RowKit

def varB (n : Nat) : List UInt8 := if n < 128 then [UInt8.ofNat n] else UInt8.ofNat (n % 128 + 128) :: varB (n / 128)
termination_by n
decreasing_by omega
theorem varB_last {n : Nat} (h : n < 128) : varB n = [UInt8.ofNat n] := by rw [varB, if_pos h]
theorem varB_more {n : Nat} (h : ¬ n < 128) : varB n = UInt8.ofNat (n % 128 + 128) :: varB (n / 128) := by rw [varB, if_neg h]
theorem or128 : ∀ x : Fin 256, bits .or .u8 (x.val : Int) 128 = ((x.val % 128 + 128 : Nat) : Int) := by decide +kernel
theorem or128c (q : Nat) : bits .or .u8 ((q : Int) % 256) 128 = ((q % 128 + 128 : Nat) : Int) := by
  have h := or128 ⟨q % 256, by omega⟩
  dsimp only at h
  rw [show ((q : Int) % 256) = ((q % 256 : Nat) : Int) by omega, h]
  omega
theorem and127 (q : Nat) (h : q ≤ 18446744073709551615) : bits .and .u64 (q : Int) 127 = ((q % 128 : Nat) : Int) := by
  have h := bits_mask .u64 64 (by decide) wraps_u64 7 (by decide) (q : Int) (by omega) (by omega)
  simp only [show (2 : Int) ^ 7 - 1 = 127 from rfl] at h
  rw [h]
  omega
theorem or128r (q : Nat) : bits .or .u8 (((q % 128 : Nat) : Int) % 256) 128 = ((q % 128 + 128 : Nat) : Int) := by
  rw [or128c]; omega
theorem byteV_of' (m : Nat) (h : m < 256) : Value.int .u8 (m : Int) = byteV (UInt8.ofNat m) := (byteV_of m h).symm
theorem pow_step {l q n : Nat} (h : 2 ^ l * q ≤ n) : 2 ^ (l + 1) * (q / 128) ≤ n := by
  refine Nat.le_trans ?_ h
  rw [Nat.pow_succ, Nat.mul_assoc]
  exact Nat.mul_le_mul_left _ (by omega)
theorem pow_len {l q n : Nat} (h : 2 ^ l * q ≤ n) (hq : 0 < q) (hn : n ≤ 18446744073709551615) : l < 64 := by
  rcases Nat.lt_or_ge l 64 with h1 | h1
  · exact h1
  · exfalso
    have h2 : 2 ^ 64 ≤ 2 ^ l := Nat.pow_le_pow_right (by omega) h1
    have h3 : 2 ^ l ≤ 2 ^ l * q := Nat.le_mul_of_pos_right _ hq
    omega

theorem val_last {k : Nat} (h : k < 128) : Value.int .u8 ((k : Int) % 256) = byteV (UInt8.ofNat k) := by
  rw [show ((k : Int) % 256) = (k : Int) by omega, byteV_of k (by omega)]
theorem val_more (k : Nat) : Value.int .u8 ((k % 128 + 128 : Nat) : Int) = byteV (UInt8.ofNat (k % 128 + 128)) := (byteV_of _ (by omega)).symm

theorem cFixed32_any (n : Nat) (w : World) (hn : n ≤ 4294967295) :
    Calls Try.prog 32 #[.int .u32 n] w fun e w' => ∃ v, e = .returned v ∧ Below w.heap.size w w' ∧ Own w' w.heap.size 5 1 v 4 ((leB n 4).map byteV) := by
  go_enter Try.func32, Try.ntmps32
  go_wp2_with fail
  refine (fixed_any n 4 _ (by omega) (by omega)).mono ?_
  rintro e w1 ⟨g, c, rfl, hb, _, ho⟩
  go_wp2_with fail
  go_ret
  exact ⟨_, rfl, hb, ho⟩
end Go.Proofs.Ytlcnachblcacjaa
