/-
  Plain facts on the sum CRC-32C: eight rounds of the bit loop are linear; what the table of 256 gives is what the loop gives.
-/
namespace Go.Proofs.Ytlcnachblcacjaa

/-- one round of the bit loop -/
def stp (r : Nat) : Nat := if r % 2 = 1 then (r / 2) ^^^ 2197175160 else r / 2
def stps : Nat → Nat → Nat
  | 0, r => r
  | n + 1, r => stp (stps n r)
/-- a byte more -/
def crcB (r x : Nat) : Nat := stps 8 (r ^^^ x)
def crcL (l : List UInt8) (r : Nat) : Nat := l.foldl (fun r x => crcB r x.toNat) r

theorem xor_half (a b : Nat) : (a ^^^ b) / 2 = (a / 2) ^^^ (b / 2) := by
  have := Nat.shiftRight_xor_distrib (a := a) (b := b) (i := 1)
  simpa [Nat.shiftRight_eq_div_pow] using this
theorem xor_par (a b : Nat) : (a ^^^ b) % 2 = (a + b) % 2 := by
  have h := Nat.testBit_xor a b 0
  simp only [Nat.testBit_zero] at h
  have ha := Nat.mod_two_eq_zero_or_one a
  have hb := Nat.mod_two_eq_zero_or_one b
  have hc := Nat.mod_two_eq_zero_or_one (a ^^^ b)
  rw [Nat.add_mod]
  rcases ha with ha | ha <;> rcases hb with hb | hb <;> rcases hc with hc | hc <;> simp [ha, hb, hc] at h ⊢

theorem stp_lt {r : Nat} (h : r < 4294967296) : stp r < 4294967296 := by
  unfold stp
  split
  · exact Nat.xor_lt_two_pow (n := 32) (by omega) (by decide)
  · omega
theorem stps_lt {r : Nat} (h : r < 4294967296) : ∀ n, stps n r < 4294967296
  | 0 => h
  | n + 1 => stp_lt (stps_lt h n)
theorem crcB_lt {r x : Nat} (h : r < 4294967296) (hx : x < 256) : crcB r x < 4294967296 :=
  stps_lt (Nat.xor_lt_two_pow (n := 32) h (by omega)) 8
theorem crcL_lt (l : List UInt8) : ∀ {r : Nat}, r < 4294967296 → crcL l r < 4294967296 := by
  induction l with
  | nil => intro r h; exact h
  | cons x l ih => intro r h; exact ih (crcB_lt h x.toNat_lt)

theorem stp_xor (a b : Nat) : stp (a ^^^ b) = stp a ^^^ stp b := by
  unfold stp
  rw [xor_half, xor_par]
  by_cases ha : a % 2 = 1
  · by_cases hb : b % 2 = 1
    · rw [if_neg (by omega), if_pos ha, if_pos hb]
      rw [Nat.xor_assoc (a / 2), Nat.xor_comm (b / 2) 2197175160, ← Nat.xor_assoc 2197175160, Nat.xor_self, Nat.zero_xor]
    · rw [if_pos (by omega), if_pos ha, if_neg hb]
      rw [Nat.xor_assoc, Nat.xor_assoc, Nat.xor_comm (b / 2)]
  · by_cases hb : b % 2 = 1
    · rw [if_pos (by omega), if_neg ha, if_pos hb, Nat.xor_assoc]
    · rw [if_neg (by omega), if_neg ha, if_neg hb]
theorem stps_xor (a b : Nat) : ∀ n, stps n (a ^^^ b) = stps n a ^^^ stps n b
  | 0 => rfl
  | n + 1 => by simp only [stps]; rw [stps_xor a b n, stp_xor]

theorem stps_shift (q : Nat) : stps 8 (256 * q) = q := by
  have e : ∀ k : Nat, stp (2 * k) = k := fun k => by unfold stp; rw [if_neg (by omega)]; omega
  have h : 256 * q = 2 * (2 * (2 * (2 * (2 * (2 * (2 * (2 * q))))))) := by omega
  rw [h]
  simp only [stps, e]

theorem parts (r : Nat) : r = (256 * (r / 256)) ^^^ (r % 256) := by
  have h := Nat.two_pow_add_eq_or_of_lt (i := 8) (b := r % 256) (by omega) (r / 256)
  have h1 : 256 * (r / 256) + r % 256 = r := by omega
  have h2 : (256 * (r / 256)) &&& (r % 256) = 0 := by
    apply Nat.eq_of_testBit_eq
    intro i
    rw [Nat.testBit_and, Nat.zero_testBit]
    by_cases hi : i < 8
    · have : (256 * (r / 256)).testBit i = false := by
        have h3 := Nat.testBit_two_pow_mul (i := 8) (j := i) (a := r / 256)
        simp only [show (2 : Nat) ^ 8 = 256 from rfl] at h3
        rw [h3]; simp; omega
      simp [this]
    · have : (r % 256).testBit i = false := Nat.testBit_lt_two_pow (Nat.lt_of_lt_of_le (by omega : r % 256 < 2 ^ 8) (Nat.pow_le_pow_right (by decide) (by omega)))
      simp [this]
  apply Nat.eq_of_testBit_eq
  intro i
  rw [Nat.testBit_xor]
  have e : r.testBit i = ((256 * (r / 256)).testBit i || (r % 256).testBit i) := by
    rw [← Nat.testBit_or]
    have h4 : 2 ^ 8 * (r / 256) + r % 256 = r := by omega
    rw [h4] at h
    rw [show (256 : Nat) * (r / 256) = 2 ^ 8 * (r / 256) from rfl, ← h]
  have z := congrArg (fun n => n.testBit i) h2
  simp only [Nat.testBit_and, Nat.zero_testBit] at z
  rw [e]
  revert z
  cases (256 * (r / 256)).testBit i <;> cases (r % 256).testBit i <;> simp

/-- THE TABLE's STEP IS THE LOOP's. -/
theorem crcB_table (r x : Nat) : crcB r x = (r / 256) ^^^ stps 8 ((r % 256) ^^^ x) := by
  have h : r ^^^ x = (256 * (r / 256)) ^^^ ((r % 256) ^^^ x) := by
    rw [← Nat.xor_assoc, ← parts]
  unfold crcB
  rw [h, stps_xor, stps_shift]
end Go.Proofs.Ytlcnachblcacjaa
