/-
  The walks of fixed and Fixed, read and ReadFixed: a number as bytes and back.
-/
import Derived.Test.YtlcnachblcacjaaChk
namespace Go.Proofs.Ytlcnachblcacjaa
open Go.RowKit

/-- a number's lowest bytes -/
def leB (n k : Nat) : List UInt8 := (List.range k).map fun i => UInt8.ofNat (n / 2 ^ (8 * i) % 256)
theorem leB_len (n k : Nat) : (leB n k).length = k := by unfold leB; simp
theorem leB_at (n k i : Nat) (h : i < k) : (leB n k)[i]? = some (UInt8.ofNat (n / 2 ^ (8 * i) % 256)) := by unfold leB; simp [h]
theorem byteV_of (m : Nat) (h : m < 256) : byteV (UInt8.ofNat m) = .int .u8 m := by
  unfold byteV; rw [UInt8.toNat_ofNat_of_lt' h]
theorem leB_val (n j : Nat) : Value.int .u8 ((n : Int) / 2 ^ (8 * j) % 256) = byteV (UInt8.ofNat (n / 2 ^ (8 * j) % 256)) := by
  rw [byteV_of _ (by omega)]
  congr 1
theorem take_more_set (cur : Array Value) (L : List UInt8) (j : Nat) (v : Value) {x : UInt8} (h : j < cur.size) (ht : cur.toList.take j = (L.take j).map byteV) (hx : L[j]? = some x) (hv : v = byteV x) :
    (cur.setIfInBounds j v).toList.take (j + 1) = (L.take (j + 1)).map byteV := by
  have hj : j < L.length := by
    rcases Nat.lt_or_ge j L.length with h' | h'
    · exact h'
    · rw [List.getElem?_eq_none h'] at hx; cases hx
  have hxe : L[j] = x := by rw [List.getElem?_eq_getElem hj] at hx; exact Option.some.inj hx
  rw [List.take_succ_eq_append_getElem (by simpa using h), List.take_succ_eq_append_getElem hj, List.map_append, ← ht]
  subst hv
  have e1 : (cur.setIfInBounds j (byteV x)).toList.take j = cur.toList.take j := by
    rw [Array.toList_setIfInBounds, List.take_set_of_le (Nat.le_refl _)]
  rw [e1]
  simp [hxe]
theorem info_byte : (Try.prog.info? 5).map (fun i => (i.zero, i.size, i.bytes)) = some (some (.int .u8 0), 1, 1) := by kernel_rfl
set_option maxHeartbeats 1000000 in
theorem fixed_any (n k : Nat) (w : World) (hn : n ≤ 18446744073709551615) (hk : k ≤ 8) :
    Calls Try.prog 37 #[.int .u64 n, .int .i64 k] w fun e w' => ∃ g c, e = .returned (.slice (some ⟨g, 0, none⟩) k c) ∧ Below w.heap.size w w' ∧ w.heap.size ≤ g ∧ Own w' w.heap.size 5 1 (.slice (some ⟨g, 0, none⟩) k c) k ((leB n k).map byteV) := by
  obtain ⟨i0, hi, hz0, hz1, hz2⟩ := info_parts info_byte
  have hmk : ∀ u : World, (Instr.makeSlice 22 (.int .i64 (k : Int)) (.int .i64 (k : Int))).run Try.prog u =
      .ok (.slice (some ⟨u.heap.size, 0, none⟩) k k) (u.alloc (.cells (madeCells #[.int .u8 0] k) 5)) := fun u => by
    have h := run_make (P := Try.prog) u 22 5 i0 (.int .u8 0) Try.underlying22 hi hz0 .i64 .i64 (k : Int) (k : Int) (by omega) (Int.le_refl _) (by rw [hz2]; omega) (by omega)
    rw [Int.toNat_natCast] at h
    simpa [hz1, Value.cells] using h
  have HN := Lib.hid hn; clear hn
  go_enter Try.func37, Try.ntmps37
  go_wp2_with fail
  clear hmk
  have hb0 : Blk (w.alloc (.cells (madeCells #[.int .u8 0] k) 5)) w.heap.size 5 (madeCells #[.int .u8 0] k) := Blk.new w _ _
  have hbl : Below w.heap.size w (w.alloc (.cells (madeCells #[.int .u8 0] k) 5)) := (Below.refl _ _).alloc (Nat.le_refl _) _
  have hsz : (madeCells #[.int .u8 0] k).size = k := size_madeCells _ _
  have HB := Lib.hid hb0; clear hb0
  have HL := Lib.hid hbl; clear hbl
  generalize madeCells #[Value.int .u8 0] k = cur0 at HB HL hsz ⊢
  generalize w.alloc (.cells cur0 5) = w0 at HB HL ⊢
  go_loopw [6, 11] (fun _ i wr => ∃ (j : Nat) (cur : Array Value), j ≤ k ∧ i = .int .i64 j ∧ Hid (Below w.heap.size w wr) ∧ Hid (Blk wr w.heap.size 5 cur) ∧ Hid (cur.size = k) ∧ Hid (cur.toList.take j = ((leB n k).take j).map byteV)) (fun _ i _ => k - (intOf i).toNat)
  case atStart => exact ⟨0, cur0, Nat.zero_le _, rfl, HL, HB, hsz, by simp [Hid]⟩
  case round =>
    obtain ⟨j, cur, hj, rfl, HBe, HBk, HS, HT⟩ := hrel
    by_cases hlt : j < k
    · have hc : wr.cell? ⟨w.heap.size, j, none⟩ = some (cur[j]'(by rw [HS.out]; exact hlt)) := by rw [HBk.out.cell, Array.getElem?_eq_getElem]
      have hf := HBk.out.frozen j
      generalize cur[j]'(by rw [HS.out]; exact hlt) = old at hc
      go_wp2
      go_roundw
      case rel =>
        exact ⟨j + 1, _, by omega, by go_num, HBe.out.setCell (p := ⟨w.heap.size, j, none⟩) (Nat.le_refl _) _, HBk.out.set_ j _, by rw [← HS.out]; exact Array.size_setIfInBounds, take_more_set cur (leB n k) j _ (by rw [HS.out]; exact hlt) HT.out (leB_at n k j hlt) (leB_val n j)⟩
      case measure => simp [intOf]; omega
    · obtain rfl : j = k := by omega
      go_wp2
      go_ret
      refine ⟨_, _, rfl, HBe.out, Nat.le_refl _, HBk.out.own (Nat.le_refl _) (Nat.le_refl _) (by unfold maxLen; omega) (by rw [HS.out, Nat.mul_one]) ?_⟩
      rw [Nat.mul_one, HT.out, List.take_of_length_le (by rw [leB_len]; exact Nat.le_refl _)]

/-! ### the document's Fixed -/
theorem leB_snoc (n j : Nat) : leB n (j + 1) = leB n j ++ [UInt8.ofNat (n / 2 ^ (8 * j) % 256)] := by unfold leB; rw [List.range_succ]; simp
/-! ### numbers out of bytes -/
/-- the number in the first k bytes -/
def unB : List UInt8 → Nat
  | [] => 0
  | x :: l => x.toNat + 256 * unB l
theorem unB_lt : ∀ l : List UInt8, unB l < 256 ^ l.length
  | [] => by simp [unB]
  | x :: l => by
    have h1 := unB_lt l
    have h2 := x.toNat_lt
    simp only [unB, List.length_cons, Nat.pow_succ]
    omega
theorem unB_snoc : ∀ (l : List UInt8) (x : UInt8), unB (l ++ [x]) = unB l + 256 ^ l.length * x.toNat
  | [], x => by simp [unB]
  | y :: l, x => by
    simp only [List.cons_append, unB, List.length_cons, Nat.pow_succ]
    rw [unB_snoc l x, Nat.mul_add]
    have e : 256 * (256 ^ l.length * x.toNat) = 256 ^ l.length * 256 * x.toNat := by
      rw [← Nat.mul_assoc, Nat.mul_comm 256]
    omega
/-- the last bytes first: what the readers do -/
theorem unB_drop (l : List UInt8) (j : Nat) (h : j < l.length) : unB (l.drop j) = l[j].toNat + 256 * unB (l.drop (j + 1)) := by
  rw [List.drop_eq_getElem_cons h]; rfl
theorem or64 (q x : Nat) (hq : q < 72057594037927936) (hx : x < 256) : bits .or .u64 ((q : Int) * 256) x = ((x + 256 * q : Nat) : Int) := by
  have h := bits_join .u64 64 (by decide) (fun n h0 h1 => by rw [IntKind.wrap_u64]; omega) 8 ((q : Int) * 256) x (by omega) (by omega) (by omega) (by omega) (by omega) (by omega)
  rw [h]; omega
theorem ret_two {a b c d : Value} (h1 : a = b) (h2 : c = d) : Ending.returned (.tuple #[a, c]) = .returned (.tuple #[b, d]) := by rw [h1, h2]
theorem int_eq_of {k : IntKind} {a b : Int} (h : a = b) : Value.int k a = .int k b := by rw [h]
theorem bound7 {q d : Nat} (h : q < 256 ^ d) (hd : d ≤ 7) : q < 72057594037927936 :=
  Nat.lt_of_lt_of_le h (Nat.le_trans (Nat.pow_le_pow_right (by decide) hd) (by decide))
theorem step256 {q d x : Nat} (h : q < 256 ^ d) (hx : x < 256) : x + 256 * q < 256 ^ (d + 1) := by rw [Nat.pow_succ]; omega
theorem rReadFixed_short (k : Nat) (A : Option Addr) (cap : Nat) (l : List UInt8) (w : World) (hs : l.length < k) :
    Calls Try.prog 23 #[.slice A l.length cap, .int .i64 k] w fun e w' => e = .returned (.tuple #[.int .u64 0, .int .i64 4]) ∧ w' = w := by
  go_enter Try.func23, Try.ntmps23
  go_wp2
  go_ret2
  exact ⟨ret_two rfl rfl, rfl⟩
set_option maxHeartbeats 1000000 in
theorem rReadFixed_long (k : Nat) (A : Option Addr) (cap : Nat) (l : List UInt8) (B : Nat) (w : World) (hk : k ≤ 8) (hs : k ≤ l.length) (hl : l.length ≤ 9223372036854775807) (hbs : Bs w B A l) :
    Calls Try.prog 23 #[.slice A l.length cap, .int .i64 k] w fun e w' => e = .returned (.tuple #[.int .u64 (unB (l.take k) : Nat), .int .i64 0]) ∧ w' = w := by
  have hd : decide ((l.length : Int) < (k : Int)) = false := by simp; omega
  go_enter Try.func23, Try.ntmps23
  go_wp2
  go_loop [6, 7] (fun r i => ∃ (j q : Nat), j ≤ k ∧ i = .int .i64 ((j : Int) - 1) ∧ r = .int .u64 q ∧ Hid (q < 256 ^ (k - j)) ∧ Hid (q = unB ((l.take k).drop j))) (fun _ i => (intOf i + 1).toNat)
  case atStart => exact ⟨k, 0, Nat.le_refl _, rfl, rfl, by simp [Hid], by rw [List.drop_of_length_le (by simp; omega)]; rfl⟩
  case round =>
    obtain ⟨j, q, hj, rfl, rfl, HB, HQ⟩ := hrel
    rcases j with _ | m
    · have hq : Value.int .u64 (q : Int) = .int .u64 (unB (l.take k) : Nat) := by rw [HQ.out]; simp
      have HQ2 := Lib.hid hq; clear hq
      go_wp2
      go_ret2
      exact ⟨ret_two HQ2.out rfl, rfl⟩
    · obtain ⟨b, off, x, rfl, _, hx, hc, HX⟩ := byte_at hbs (k := m) (by omega)
      have hq7 := bound7 HB.out (by omega)
      have ho := or64 q x hq7 hx
      have hn : x + 256 * q < 256 ^ (k - m) := by have := step256 HB.out hx; rw [show k - (m + 1) + 1 = k - m by omega] at this; exact this
      have HN := Lib.hid hn; clear hn
      have hm : ((m + 1 : Nat) : Int) - 1 = m := by omega
      rw [hm]
      clear hm
      go_wp2
      go_round
      case rel => exact ⟨m, x + 256 * q, by omega, rfl, rfl, HN.out, by show x + 256 * q = _; rw [unB_drop _ m (by simp; omega), ← HQ.out, HX.out, List.getElem_take]⟩
      case measure => simp [intOf]
end Go.Proofs.Ytlcnachblcacjaa
