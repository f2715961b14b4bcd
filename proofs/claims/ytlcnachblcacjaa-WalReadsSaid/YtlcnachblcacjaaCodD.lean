/-
  The walks of the table of 256 and of the program's Sum.
-/
import Derived.Test.YtlcnachblcacjaaCodC
namespace Go.Proofs.Ytlcnachblcacjaa
open Go.RowKit

def zeros256 : Array Value := Array.replicate 256 (.int .u32 0)
theorem zeros_at (k : Nat) (h : k < 256) : zeros256[k]? = some (.int .u32 0) := by unfold zeros256; simp [h]
theorem zero_table (w : World) : (zeroValue 74).run Try.prog w = .ok (.agg zeros256) w := by kernel_rfl
theorem two8 (z : Nat) (hz : z ≤ 4294967295) (h : z % 2 = 0) : bits .xor .u32 ((z : Int) / 2) 0 = (stp z : Int) := by
  have e := xor32 (z / 2) 0 (by omega) (by omega)
  unfold stp
  rw [if_neg (by omega), ← Nat.xor_zero (z / 2), ← e]
  congr 1
theorem poly_all : bits .and .u32 2197175160 4294967295 = 2197175160 := by decide
theorem poly_none : bits .and .u32 2197175160 0 = 0 := by decide

/-- Block g is the table, its first k places filled. -/
structure Tab (w w' : World) (g k : Nat) : Prop where
  b : Below g w w'
  lt : g < w'.heap.size
  c : ∀ i, i < 256 → ∃ v, w'.cell? ⟨g, i, none⟩ = some v
  f : ∀ i, w'.frozen? ⟨g, i, none⟩ = false
  v : ∀ i, i < k → w'.cell? ⟨g, i, none⟩ = some (.int .u32 (stps 8 i : Nat))
theorem Tab.set {w w' : World} {g k : Nat} (h : Tab w w' g k) (hk : k < 256) : Tab w (w'.setCell ⟨g, k, none⟩ (.int .u32 (stps 8 k : Nat))) g (k + 1) := by
  obtain ⟨v, hv⟩ := h.c k hk
  refine ⟨h.b.setCell (p := ⟨g, k, none⟩) (Nat.le_refl _) _, by simpa using h.lt, ?_, ?_, ?_⟩
  · intro i hi
    by_cases e : i = k
    · subst e; exact ⟨_, World.cell?_setCell_same' _ _ _ (by rw [hv]; rfl)⟩
    · obtain ⟨v', hv'⟩ := h.c i hi
      exact ⟨v', by rw [World.cell?_setCell_other _ _ _ _ (by simp)]; exact hv'⟩
  · intro i; rw [World.frozen?_setCell]; exact h.f i
  · intro i hi
    by_cases e : i = k
    · subst e; exact World.cell?_setCell_same' _ _ _ (by rw [hv]; rfl)
    · rw [World.cell?_setCell_other _ _ _ _ (by simp)]; exact h.v i (by omega)
set_option maxHeartbeats 1000000 in
set_option maxRecDepth 100000 in
theorem table_any (w : World) :
    Calls Try.prog 36 #[] w fun e w' => e = .returned (.pointer (some ⟨w.heap.size, 0, none⟩)) ∧ Tab w w' w.heap.size 256 := by
  have hz := zero_table
  go_enter Try.func36, Try.ntmps36
  go_wp2_with fail
  clear hz
  have hT : Tab w (w.alloc (.cells zeros256 74)) w.heap.size 0 := by
    have e : (w.alloc (.cells zeros256 74)).heap[w.heap.size]? = some (.cells zeros256 74) := by
      show (w.heap.push _)[w.heap.size]? = _
      simp
    refine ⟨(Below.refl _ _).alloc (Nat.le_refl _) _, by simp, fun i hi => ⟨.int .u32 0, ?_⟩, fun i => ?_, fun i hi => by omega⟩
    · unfold World.cell?; rw [e]; exact zeros_at i hi
    · unfold World.frozen?; rw [e]; simp
  have HT := Lib.hid hT
  clear hT
  generalize w.alloc (.cells zeros256 74) = w0 at HT ⊢
  go_loopw [2, 3, 4, 9] (fun _ _ i _ wr => ∃ k : Nat, k ≤ 256 ∧ i = .int .i64 k ∧ Hid (Tab w wr w.heap.size k)) (fun _ _ i _ _ => 256 - (intOf i).toNat)
  case atStart => exact ⟨0, by omega, rfl, HT⟩
  case round =>
    obtain ⟨k, hk, rfl, HTk⟩ := hrel
    by_cases hlt : k < 256
    · obtain ⟨v, hv⟩ := HTk.out.c k hlt
      have hf := HTk.out.f k
      have hfin := HTk.out.set hlt
      have HF := Lib.hid hfin; clear hfin
      go_wp2
      go_loop [3, 9] (fun r i => ∃ (j : Nat) (z : Nat), j ≤ 8 ∧ z ≤ 4294967295 ∧ i = .int .i64 j ∧ r = .int .u32 z ∧ Hid (z = stps j k)) (fun _ i => 8 - (intOf i).toNat)
      case atStart => exact ⟨0, k, Nat.zero_le _, by omega, rfl, rfl, rfl⟩
      case round =>
        obtain ⟨j, z, hj, hz, rfl, rfl, HZ⟩ := hrel
        have hz1 : stp z ≤ 4294967295 := by have := stp_lt (r := z) (by omega); omega
        by_cases hj8 : j < 8
        · by_cases hp : z % 2 = 1
          · have ha := par32 z hz
            rw [hp] at ha
            have ho := stp_odd z hz hp
            have hpa := poly_all
            go_wp2
            go_round
            case rel => exact ⟨j + 1, stp z, by omega, hz1, by go_num, rfl, by rw [HZ.out]; rfl⟩
            case measure => simp [intOf]; omega
          · have hp : z % 2 = 0 := by omega
            have ha := par32 z hz
            rw [hp] at ha
            have ho := two8 z hz hp
            have hpa := poly_none
            go_wp2
            go_round
            case rel => exact ⟨j + 1, stp z, by omega, hz1, by go_num, rfl, by rw [HZ.out]; rfl⟩
            case measure => simp [intOf]; omega
        · obtain rfl : j = 8 := by omega
          go_wp2
          go_roundw
          case rel => exact ⟨k + 1, by omega, by go_num, by rw [HZ.out]; exact HF.out⟩
          case measure => simp [intOf]; omega
    · obtain rfl : k = 256 := by omega
      go_wp2
      go_ret
      exact ⟨rfl, HTk.out⟩

set_option maxHeartbeats 1000000 in
theorem cSum_short (A : Option Addr) (cap : Nat) (l : List UInt8) (B : Nat) (w : World) (hl : l.length < 64) (hbs : Bs w B A l) :
    Calls Try.prog 31 #[.slice A l.length cap] w fun e w' => e = .returned (.int .u32 ((4294967295 - crcL l 4294967295 : Nat) : Int)) ∧ w' = w := by
  have hd : decide ((l.length : Int) < 64) = true := by simp; omega
  go_enter Try.func31, Try.ntmps31
  go_wp2
  go_loop [3, 5, 14] (fun r _ i => ∃ (k : Nat) (q : Nat), k ≤ l.length ∧ q ≤ 4294967295 ∧ i = .int .i64 k ∧ r = .int .u32 q ∧ Hid (q = crcL (l.take k) 4294967295)) (fun _ _ i => l.length - (intOf i).toNat)
  case atStart => exact ⟨0, 4294967295, Nat.zero_le _, Nat.le_refl _, rfl, rfl, rfl⟩
  case round =>
    obtain ⟨k, q, hk, hq, rfl, rfl, HQ⟩ := hrel
    by_cases hlt : k < l.length
    · obtain ⟨b, off, x, rfl, _, hx, hc, HX⟩ := byte_at hbs hlt
      have hX := xor32 q x hq (by omega)
      have hy : q ^^^ x ≤ 4294967295 := by have := Nat.xor_lt_two_pow (n := 32) (x := q) (y := x) (by omega) (by omega); omega
      obtain ⟨y, HY⟩ : ∃ y, Hid (q ^^^ x = y) := ⟨_, rfl⟩
      rw [HY.out] at hX hy
      go_wp2
      go_loop [3, 22] (fun r i => ∃ (j : Nat) (z : Nat), j ≤ 8 ∧ z ≤ 4294967295 ∧ i = .int .i64 j ∧ r = .int .u32 z ∧ Hid (z = stps j y)) (fun _ i => 8 - (intOf i).toNat)
      case atStart => exact ⟨0, y, Nat.zero_le _, hy, rfl, rfl, rfl⟩
      case round =>
        obtain ⟨j, z, hj, hz, rfl, rfl, HZ⟩ := hrel
        have hz1 : stp z ≤ 4294967295 := by have := stp_lt (r := z) (by omega); omega
        by_cases hj8 : j < 8
        · by_cases hp : z % 2 = 1
          · have ha := par32 z hz
            rw [hp] at ha
            have ho := stp_odd z hz hp
            have hpa := poly_all
            go_wp2
            go_round
            case rel => exact ⟨j + 1, stp z, by omega, hz1, by go_num, rfl, by rw [HZ.out]; rfl⟩
            case measure => simp [intOf]; omega
          · have hp : z % 2 = 0 := by omega
            have ha := par32 z hz
            rw [hp] at ha
            have ho := two8 z hz hp
            have hpa := poly_none
            go_wp2
            go_round
            case rel => exact ⟨j + 1, stp z, by omega, hz1, by go_num, rfl, by rw [HZ.out]; rfl⟩
            case measure => simp [intOf]; omega
        · obtain rfl : j = 8 := by omega
          go_wp2
          go_round
          case rel => exact ⟨k + 1, z, by omega, hz, by go_num, rfl, by rw [take_more l k hlt, crcL_snoc, ← HQ.out, ← HX.out, HZ.out, ← HY.out]; rfl⟩
          case measure => simp [intOf]; omega
    · have hn := not32 q hq
      have HN := Lib.hid hn; clear hn
      go_wp2
      go_ret
      refine ⟨ret_int ?_, rfl⟩
      rw [HN.out, HQ.out, List.take_of_length_le (by omega)]
theorem xor8 (a b : Nat) (ha : a < 256) (hb : b < 256) : bits .xor .u8 a b = ((a ^^^ b : Nat) : Int) := by
  rw [u8_xor] <;> first | omega | simp
set_option maxHeartbeats 1000000 in
set_option maxRecDepth 100000 in
theorem cSum_long (A : Option Addr) (cap : Nat) (l : List UInt8) (w : World) (hl : l.length ≤ 9223372036854775807) (h64 : 64 ≤ l.length) (hbs : Bs w w.heap.size A l) :
    Calls Try.prog 31 #[.slice A l.length cap] w fun e w' => e = .returned (.int .u32 ((4294967295 - crcL l 4294967295 : Nat) : Int)) ∧ Below w.heap.size w w' := by
  have hd : decide ((l.length : Int) < 64) = false := by simp; omega
  go_enter Try.func31, Try.ntmps31
  go_wp2_with (go_at_call 36; refine (table_any _).mono ?_; rintro e w1 ⟨rfl, hT⟩)
  have hbs1 := hbs.keep hT.b
  have HT := Lib.hid hT; clear hT
  go_loop [3, 8, 38] (fun r _ i => ∃ (k : Nat) (q : Nat), k ≤ l.length ∧ q ≤ 4294967295 ∧ i = .int .i64 k ∧ r = .int .u32 q ∧ Hid (q = crcL (l.take k) 4294967295)) (fun _ _ i => l.length - (intOf i).toNat)
  case atStart => exact ⟨0, 4294967295, Nat.zero_le _, Nat.le_refl _, rfl, rfl, rfl⟩
  case round =>
    obtain ⟨k, q, hk, hq, rfl, rfl, HQ⟩ := hrel
    by_cases hlt : k < l.length
    · obtain ⟨b, off, x, rfl, _, hx, hc, HX⟩ := byte_at hbs1 hlt
      have hX : bits .xor .u8 ((q : Int) % 256) x = ((q % 256 ^^^ x : Nat) : Int) := xor8 (q % 256) x (by omega) hx
      have hy : (q % 256) ^^^ x < 256 := Nat.xor_lt_two_pow (n := 8) (by omega) (by omega)
      obtain ⟨y, HY⟩ : ∃ y, Hid ((q % 256) ^^^ x = y) := ⟨_, rfl⟩
      rw [HY.out] at hX hy
      have hc2 := HT.out.v y hy
      obtain ⟨t, HTT⟩ : ∃ t, Hid (stps 8 y = t) := ⟨_, rfl⟩
      rw [HTT.out] at hc2
      have ht : t ≤ 4294967295 := by have := stps_lt (r := y) (by omega) 8; rw [HTT.out] at this; omega
      have hX2 : bits .xor .u32 ((q : Int) / 256) t = ((q / 256 ^^^ t : Nat) : Int) := xor32 (q / 256) t (by omega) ht
      have hz : (q / 256) ^^^ t ≤ 4294967295 := by have := Nat.xor_lt_two_pow (n := 32) (x := q / 256) (y := t) (by omega) (by omega); omega
      obtain ⟨z, HZ⟩ : ∃ z, Hid ((q / 256) ^^^ t = z) := ⟨_, rfl⟩
      rw [HZ.out] at hX2 hz
      go_wp2
      go_round
      case rel => exact ⟨k + 1, z, by omega, hz, by go_num, rfl, by rw [take_more l k hlt, crcL_snoc, ← HQ.out, ← HX.out, crcB_table, HY.out, HTT.out, HZ.out]; rfl⟩
      case measure => simp [intOf]; omega
    · have hn := not32 q hq
      have HN := Lib.hid hn; clear hn
      go_wp2
      go_ret
      refine ⟨ret_int ?_, HT.out.b⟩
      rw [HN.out, HQ.out, List.take_of_length_le (by omega)]
theorem cSum_any (A : Option Addr) (cap : Nat) (l : List UInt8) (w : World) (hl : l.length ≤ 9223372036854775807) (hbs : Bs w w.heap.size A l) :
    Calls Try.prog 31 #[.slice A l.length cap] w fun e w' => e = .returned (.int .u32 ((4294967295 - crcL l 4294967295 : Nat) : Int)) ∧ Below w.heap.size w w' := by
  by_cases h : l.length < 64
  · exact (cSum_short A cap l _ w h hbs).mono fun e w' ⟨he, hw⟩ => ⟨he, by rw [hw]; exact Below.refl _ _⟩
  · exact cSum_long A cap l w hl (by omega) hbs
end Go.Proofs.Ytlcnachblcacjaa
