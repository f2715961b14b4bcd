/-
  The walks of fixed and Fixed, read and ReadFixed: a number as bytes and back.
-/
import Derived.Test.YtodnojpolkdlmaaChk
namespace Go.Proofs.Ytodnojpolkdlmaa
open Go.RowKit

/-- a number's lowest bytes -/
def leB (n k : Nat) : List UInt8 := (List.range k).map fun i => UInt8.ofNat (n / 2 ^ (8 * i) % 256)
theorem leB_len (n k : Nat) : (leB n k).length = k := by unfold leB; simp
theorem leB_at (n k i : Nat) (h : i < k) : (leB n k)[i]? = some (UInt8.ofNat (n / 2 ^ (8 * i) % 256)) := by unfold leB; simp [h]
theorem byteV_of (m : Nat) (h : m < 256) : byteV (UInt8.ofNat m) = .int .u8 m := by
  unfold byteV; rw [UInt8.toNat_ofNat_of_lt' h]
theorem leB_val (n j : Nat) : Value.int .u8 ((n : Int) / 2 ^ (8 * j) % 256) = byteV (UInt8.ofNat (n / 2 ^ (8 * j) % 256)) := by
  rw [byteV_of _ (by omega)]
  congr 1
theorem take_more_set (cur : Array Value) (L : List UInt8) (j : Nat) (v : Value) {x : UInt8} (h : j < cur.size) (ht : cur.toList.take j = (L.take j).map byteV) (hx : L[j]? = some x) (hv : v = byteV x) :
    (cur.setIfInBounds j v).toList.take (j + 1) = (L.take (j + 1)).map byteV := by
  have hj : j < L.length := by
    rcases Nat.lt_or_ge j L.length with h' | h'
    · exact h'
    · rw [List.getElem?_eq_none h'] at hx; cases hx
  have hxe : L[j] = x := by rw [List.getElem?_eq_getElem hj] at hx; exact Option.some.inj hx
  rw [List.take_succ_eq_append_getElem (by simpa using h), List.take_succ_eq_append_getElem hj, List.map_append, ← ht]
  subst hv
  have e1 : (cur.setIfInBounds j (byteV x)).toList.take j = cur.toList.take j := by
    rw [Array.toList_setIfInBounds, List.take_set_of_le (Nat.le_refl _)]
  rw [e1]
  simp [hxe]
theorem info_byte : (Try.prog.info? 5).map (fun i => (i.zero, i.size, i.bytes)) = some (some (.int .u8 0), 1, 1) := by kernel_rfl
/-! ### the document's Fixed -/
theorem leB_snoc (n j : Nat) : leB n (j + 1) = leB n j ++ [UInt8.ofNat (n / 2 ^ (8 * j) % 256)] := by unfold leB; rw [List.range_succ]; simp
/-! ### numbers out of bytes -/
/-- the number in the first k bytes -/
def unB : List UInt8 → Nat
  | [] => 0
  | x :: l => x.toNat + 256 * unB l
theorem unB_lt : ∀ l : List UInt8, unB l < 256 ^ l.length
  | [] => by simp [unB]
  | x :: l => by
    have h1 := unB_lt l
    have h2 := x.toNat_lt
    simp only [unB, List.length_cons, Nat.pow_succ]
    omega
theorem unB_snoc : ∀ (l : List UInt8) (x : UInt8), unB (l ++ [x]) = unB l + 256 ^ l.length * x.toNat
  | [], x => by simp [unB]
  | y :: l, x => by
    simp only [List.cons_append, unB, List.length_cons, Nat.pow_succ]
    rw [unB_snoc l x, Nat.mul_add]
    have e : 256 * (256 ^ l.length * x.toNat) = 256 ^ l.length * 256 * x.toNat := by
      rw [← Nat.mul_assoc, Nat.mul_comm 256]
    omega
/-- the last bytes first: what the readers do -/
theorem unB_drop (l : List UInt8) (j : Nat) (h : j < l.length) : unB (l.drop j) = l[j].toNat + 256 * unB (l.drop (j + 1)) := by
  rw [List.drop_eq_getElem_cons h]; rfl
theorem or64 (q x : Nat) (hq : q < 72057594037927936) (hx : x < 256) : bits .or .u64 ((q : Int) * 256) x = ((x + 256 * q : Nat) : Int) := by
  have h := bits_join .u64 64 (by decide) (fun n h0 h1 => by rw [IntKind.wrap_u64]; omega) 8 ((q : Int) * 256) x (by omega) (by omega) (by omega) (by omega) (by omega) (by omega)
  rw [h]; omega
theorem ret_two {a b c d : Value} (h1 : a = b) (h2 : c = d) : Ending.returned (.tuple #[a, c]) = .returned (.tuple #[b, d]) := by rw [h1, h2]
theorem int_eq_of {k : IntKind} {a b : Int} (h : a = b) : Value.int k a = .int k b := by rw [h]
theorem bound7 {q d : Nat} (h : q < 256 ^ d) (hd : d ≤ 7) : q < 72057594037927936 :=
  Nat.lt_of_lt_of_le h (Nat.le_trans (Nat.pow_le_pow_right (by decide) hd) (by decide))
theorem step256 {q d x : Nat} (h : q < 256 ^ d) (hx : x < 256) : x + 256 * q < 256 ^ (d + 1) := by rw [Nat.pow_succ]; omega
end Go.Proofs.Ytodnojpolkdlmaa
