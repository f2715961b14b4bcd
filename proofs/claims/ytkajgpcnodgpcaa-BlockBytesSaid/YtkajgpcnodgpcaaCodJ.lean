/-
  Encode and Decode in one word each, and what they make of one another.
-/
import Derived.Test.YtkajgpcnodgpcaaCodI
namespace Go.Proofs.Ytkajgpcnodgpcaa
set_option linter.unusedSimpArgs false
open Go.RowKit

def encL (a : K) : List UInt8 := if chkK a = 0 then encB a.u a.s.toNat a.k.toNat else []
theorem chk_bounds {a : K} (h : chkK a = 0) (h0 : 0 ≤ a.s) : a.u.size ≤ 1024 ∧ a.s ≤ 72057594037927935 ∧ 0 ≤ a.k ∧ a.k ≤ 2 := by
  unfold chkK at h
  split at h
  · simp at h
  · split at h
    · simp at h
    · omega
theorem encL_len (a : K) : (encL a).length ≤ 1032 ∨ 1024 < a.u.size := by
  unfold encL
  split
  · unfold encB
    simp only [List.length_append, leB_len, Array.length_toList]
    have : a.u.data.size = a.u.size := rfl
    omega
  · simp
theorem cEncode_any (a : K) (w : World) (h0 : 0 ≤ a.s) :
    Calls Try.prog 53 #[keyV a] w fun e w' => ∃ v, e = .returned (.tuple #[v, .int .i64 (chkK a)]) ∧ Below w.heap.size w w' ∧ Own w' w.heap.size 5 1 v (encL a).length ((encL a).map byteV) := by
  by_cases hc : chkK a = 0
  · have hb := chk_bounds hc h0
    have h := cEncode_ok a.u a.s.toNat a.k.toNat w hb.1 (by omega) (by omega)
    rw [show ((a.s.toNat : Nat) : Int) = a.s by omega, show ((a.k.toNat : Nat) : Int) = a.k by omega] at h
    refine h.mono fun e w' ⟨v, he, hb', ho⟩ => ⟨v, by rw [hc]; exact he, hb', ?_⟩
    have e1 : encL a = encB a.u a.s.toNat a.k.toNat := by unfold encL; rw [if_pos hc]
    have e2 : (encL a).length = a.u.size + 8 := by
      rw [e1]; unfold encB
      simp only [List.length_append, leB_len, Array.length_toList]
      rfl
    rw [e2, e1]
    exact ho
  · refine (cEncode_bad a.u a.s a.k w hc).mono fun e w' ⟨he, hb'⟩ => ⟨_, he, hb', ?_⟩
    have e1 : encL a = [] := by unfold encL; rw [if_neg hc]
    rw [e1]
    exact Own.nil _ _ _ _
theorem cDecode_any (A : Option Addr) (cap : Nat) (l : List UInt8) (w : World) (hl : l.length ≤ cap) (hcap : l.length ≤ 140737488351240) (hbs : Bs w w.heap.size A l) :
    Calls Try.prog 84 #[.slice A l.length cap] w fun e w' => e = .returned (.tuple #[keyV (decR l), .int .i64 (decE l)]) ∧ Below w.heap.size w w' := by
  by_cases h : l.length < 8
  · have e1 : decR l = ⟨ByteArray.empty, 0, 0⟩ := by unfold decR; rw [if_pos h]
    have e2 : decE l = 4 := by unfold decE; rw [if_pos h]
    rw [e1, e2]
    exact cDecode_short A cap l w h
  · rcases hbs with hn | ⟨b, off, rfl, hb, hc⟩
    · have : l = [] := by simpa using hn
      subst this; simp at h
    · obtain ⟨m, hm⟩ : ∃ m, l.length = m + 8 := ⟨l.length - 8, by omega⟩
      have := cDecode_long m b off cap l w hm (by omega) (by omega) (.inr ⟨b, off, rfl, hb, hc⟩)
      rw [hm]
      exact this
theorem rEncode_any (a : K) (w : World) (h0 : 0 ≤ a.s) :
    Calls Try.prog 57 #[keyV a] w fun e w' => ∃ v, e = .returned (.tuple #[v, .int .i64 (chkK a)]) ∧ Below w.heap.size w w' ∧ Own w' w.heap.size 5 1 v (encL a).length ((encL a).map byteV) := by
  by_cases hc : chkK a = 0
  · have hb := chk_bounds hc h0
    have h := rEncode_ok a.u a.s.toNat a.k.toNat w hb.1 (by omega) (by omega)
    rw [show ((a.s.toNat : Nat) : Int) = a.s by omega, show ((a.k.toNat : Nat) : Int) = a.k by omega] at h
    refine h.mono fun e w' ⟨v, he, hb', ho⟩ => ⟨v, by rw [hc]; exact he, hb', ?_⟩
    have e1 : encL a = encB a.u a.s.toNat a.k.toNat := by unfold encL; rw [if_pos hc]
    have e2 : (encL a).length = a.u.size + 8 := by
      rw [e1]; unfold encB
      simp only [List.length_append, leB_len, Array.length_toList]
      rfl
    rw [e2, e1]
    exact ho
  · refine (rEncode_bad a.u a.s a.k w hc).mono fun e w' ⟨he, hb'⟩ => ⟨_, he, hb', ?_⟩
    have e1 : encL a = [] := by unfold encL; rw [if_neg hc]
    rw [e1]
    exact Own.nil _ _ _ _
theorem rDecode_any (A : Option Addr) (cap : Nat) (l : List UInt8) (w : World) (hl : l.length ≤ cap) (hcap : l.length ≤ 140737488351240) (hbs : Bs w w.heap.size A l) :
    Calls Try.prog 63 #[.slice A l.length cap] w fun e w' => e = .returned (.tuple #[keyV (decR l), .int .i64 (decE l)]) ∧ Below w.heap.size w w' := by
  by_cases h : l.length < 8
  · have e1 : decR l = ⟨ByteArray.empty, 0, 0⟩ := by unfold decR; rw [if_pos h]
    have e2 : decE l = 4 := by unfold decE; rw [if_pos h]
    rw [e1, e2]
    exact rDecode_short A cap l w h
  · rcases hbs with hn | ⟨b, off, rfl, hb, hc⟩
    · have : l = [] := by simpa using hn
      subst this; simp at h
    · obtain ⟨m, hm⟩ : ∃ m, l.length = m + 8 := ⟨l.length - 8, by omega⟩
      have := rDecode_long m b off cap l w hm (by omega) (by omega) (.inr ⟨b, off, rfl, hb, hc⟩)
      rw [hm]
      exact this

theorem leB_succ (n k : Nat) : leB n (k + 1) = UInt8.ofNat (n % 256) :: leB (n / 256) k := by
  unfold leB
  rw [List.range_succ_eq_map, List.map_cons, List.map_map]
  congr 1
  · simp
  · apply List.map_congr_left
    intro i _
    simp only [Function.comp]
    rw [Nat.div_div_eq_div_mul, show 8 * (i + 1) = 8 + 8 * i by omega, Nat.pow_add]
theorem unB_leB : ∀ (k n : Nat), n < 256 ^ k → unB (leB n k) = n
  | 0, n, h => by have : n = 0 := by simpa using h
                  subst this; rfl
  | k + 1, n, h => by
    rw [leB_succ]
    have ih := unB_leB k (n / 256) (by rw [Nat.pow_succ] at h; omega)
    show (UInt8.ofNat (n % 256)).toNat + 256 * unB (leB (n / 256) k) = n
    rw [ih]
    simp
    omega
theorem dec_enc (a : K) (h0 : 0 ≤ a.s) (h : chkK a = 0) : decE (encL a) = 0 ∧ decR (encL a) = a := by
  obtain ⟨u, s, k⟩ := a
  have hb := chk_bounds h h0
  dsimp only at h0 hb
  have e1 : encL ⟨u, s, k⟩ = u.data.toList ++ leB (s.toNat * 256 + k.toNat) 8 := by unfold encL; rw [if_pos h]; rfl
  have hl : u.data.toList.length = (encL ⟨u, s, k⟩).length - 8 := by rw [e1, List.length_append, leB_len]; omega
  have hl8 : ¬ (encL ⟨u, s, k⟩).length < 8 := by rw [e1, List.length_append, leB_len]; omega
  have hd : decK (encL ⟨u, s, k⟩) = ⟨u, s, k⟩ := by
    unfold decK
    rw [← hl, e1, List.take_left, List.drop_left, unB_leB 8 _ (by omega)]
    rw [show ((s.toNat * 256 + k.toNat) / 256 : Nat) = s.toNat by omega, show ((s.toNat * 256 + k.toNat) % 256 : Nat) = k.toNat by omega]
    rw [show ((s.toNat : Nat) : Int) = s by omega, show ((k.toNat : Nat) : Int) = k by omega]
  unfold decE decR
  rw [if_neg hl8, if_neg hl8, hd, h]
  exact ⟨rfl, rfl⟩
end Go.Proofs.Ytkajgpcnodgpcaa
