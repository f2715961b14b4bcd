/-
  The orders of keys as plain functions on numbers and bytes, and their laws: no program in sight.
-/
import Derived.Lib.Bytealg
import Derived.Lib.Strings
namespace Go.Proofs.Ytodnojpolkdlmaa

/-- how two strings compare under a comparator -/
def cmpH (how : Int) (a b : ByteArray) : Int := if how = 1 then Lib.compareBytes b.data.toList a.data.toList else Lib.compareBytes a.data.toList b.data.toList
def cmpI (x y : Int) : Int := if x < y then -1 else if y < x then 1 else 0
def or3 (x y z : Int) : Int := if x ≠ 0 then x else if y ≠ 0 then y else z
/-- an internal key: its user key, number, kind -/
structure K where
  u : ByteArray
  s : Int
  k : Int
def ordK (how : Int) (a b : K) : Int := or3 (cmpH how a.u b.u) (cmpI b.s a.s) (cmpI b.k a.k)
/-- what is wrong with a key -/
def chkK (a : K) : Int := if 1024 < (a.u.size : Int) then 2 else if 72057594037927935 < a.s ∨ a.k < 0 ∨ 2 < a.k then 1 else 0

/-! ### the bytes' order -/
theorem cb_refl : ∀ a : List UInt8, Lib.compareBytes a a = 0
  | [] => rfl
  | x :: a => by simp only [Lib.compareBytes, UInt8.lt_irrefl, if_false]; exact cb_refl a
theorem cb_anti : ∀ a b : List UInt8, Lib.compareBytes b a = - Lib.compareBytes a b
  | [], [] => rfl
  | [], _ :: _ => rfl
  | _ :: _, [] => rfl
  | x :: a, y :: b => by
    simp only [Lib.compareBytes]
    by_cases h : x < y
    · rw [if_pos h, if_neg (fun h' => UInt8.lt_irrefl _ (UInt8.lt_trans h h')), if_pos h]; rfl
    · by_cases h' : y < x
      · rw [if_pos h', if_neg h, if_pos h']
      · rw [if_neg h, if_neg h', if_neg h', if_neg h]; exact cb_anti a b
theorem cb_three : ∀ a b : List UInt8, Lib.compareBytes a b = -1 ∨ Lib.compareBytes a b = 0 ∨ Lib.compareBytes a b = 1
  | [], [] => by simp [Lib.compareBytes]
  | [], _ :: _ => by simp [Lib.compareBytes]
  | _ :: _, [] => by simp [Lib.compareBytes]
  | x :: a, y :: b => by
    simp only [Lib.compareBytes]
    by_cases h : x < y
    · simp [h]
    · by_cases h' : y < x
      · simp [h, h']
      · simp only [h, h', if_false]; exact cb_three a b
theorem cb_eq : ∀ a b : List UInt8, Lib.compareBytes a b = 0 ↔ a = b
  | [], [] => by simp [Lib.compareBytes]
  | [], _ :: _ => by simp [Lib.compareBytes]
  | _ :: _, [] => by simp [Lib.compareBytes]
  | x :: a, y :: b => by
    simp only [Lib.compareBytes]
    by_cases h : x < y
    · simp [h]; intro e; subst e; exact absurd h (UInt8.lt_irrefl _)
    · by_cases h' : y < x
      · simp [h, h']; intro e; subst e; exact absurd h' (UInt8.lt_irrefl _)
      · have e : x = y := UInt8.le_antisymm (UInt8.not_lt.1 h') (UInt8.not_lt.1 h)
        simp only [h, h', if_false]; rw [cb_eq a b]; simp [e]
theorem cb_less : ∀ a b : List UInt8, (Lib.compareBytes a b < 0) ↔ Op.bytesLess a b = true
  | [], [] => by simp [Lib.compareBytes, Op.bytesLess]
  | [], _ :: _ => by simp [Lib.compareBytes, Op.bytesLess]
  | _ :: _, [] => by simp [Lib.compareBytes, Op.bytesLess]
  | x :: a, y :: b => by
    simp only [Lib.compareBytes, Op.bytesLess]
    by_cases h : x < y
    · simp [h]
    · by_cases h' : y < x
      · have hne : x ≠ y := fun e => by subst e; exact UInt8.lt_irrefl _ h'
        simp [h, h', hne]
      · have e : x = y := UInt8.le_antisymm (UInt8.not_lt.1 h') (UInt8.not_lt.1 h)
        simp only [h, h', if_false]; rw [cb_less a b]; simp [e]
theorem cb_trans : ∀ a b c : List UInt8, Lib.compareBytes a b ≤ 0 → Lib.compareBytes b c ≤ 0 → Lib.compareBytes a c ≤ 0 ∧ (Lib.compareBytes a b < 0 ∨ Lib.compareBytes b c < 0 → Lib.compareBytes a c < 0)
  | [], [], [] => by simp [Lib.compareBytes]
  | [], [], _ :: _ => by simp [Lib.compareBytes]
  | [], _ :: _, [] => by simp [Lib.compareBytes]
  | [], _ :: _, _ :: _ => by simp [Lib.compareBytes]
  | _ :: _, [], _ => by simp [Lib.compareBytes]
  | _ :: _, _ :: _, [] => by simp [Lib.compareBytes]
  | x :: a, y :: b, z :: c => by
    simp only [Lib.compareBytes]
    by_cases h : x < y
    · rw [if_pos h]
      by_cases h2 : y < z
      · rw [if_pos h2, if_pos (UInt8.lt_trans h h2)]; simp
      · by_cases h3 : z < y
        · rw [if_neg h2, if_pos h3]; intro _ h4; exact absurd h4 (by decide)
        · have e : y = z := UInt8.le_antisymm (UInt8.not_lt.1 h3) (UInt8.not_lt.1 h2)
          subst e
          rw [if_pos h]; simp
    · by_cases h' : y < x
      · rw [if_neg h, if_pos h']; intro h4; exact absurd h4 (by decide)
      · have e : x = y := UInt8.le_antisymm (UInt8.not_lt.1 h') (UInt8.not_lt.1 h)
        subst e
        rw [if_neg h, if_neg h]
        by_cases h2 : x < z
        · simp [h2]
        · by_cases h3 : z < x
          · rw [if_neg h2, if_pos h3]; intro _ h4; exact absurd h4 (by decide)
          · simp only [h2, h3, if_false]; exact cb_trans a b c

/-! ### the comparator's order -/
theorem data_inj {a b : ByteArray} (h : a.data.toList = b.data.toList) : a = b := by
  cases a; cases b; simp at h; simp [h]
theorem cmpH_refl (how : Int) (a : ByteArray) : cmpH how a a = 0 := by unfold cmpH; split <;> exact cb_refl _
theorem cmpH_anti (how : Int) (a b : ByteArray) : cmpH how b a = - cmpH how a b := by unfold cmpH; split <;> exact cb_anti _ _
theorem cmpH_three (how : Int) (a b : ByteArray) : cmpH how a b = -1 ∨ cmpH how a b = 0 ∨ cmpH how a b = 1 := by unfold cmpH; split <;> exact cb_three _ _
theorem cmpH_eq (how : Int) (a b : ByteArray) : cmpH how a b = 0 ↔ a = b := by
  unfold cmpH
  split
  · rw [cb_eq]; exact ⟨fun h => (data_inj h).symm, fun h => by rw [h]⟩
  · rw [cb_eq]; exact ⟨fun h => data_inj h, fun h => by rw [h]⟩
theorem cmpH_trans (how : Int) (a b c : ByteArray) (h1 : cmpH how a b ≤ 0) (h2 : cmpH how b c ≤ 0) : cmpH how a c ≤ 0 ∧ (cmpH how a b < 0 ∨ cmpH how b c < 0 → cmpH how a c < 0) := by
  unfold cmpH at *
  by_cases h : how = 1
  · simp only [h, if_true] at *
    have := cb_trans _ _ _ h2 h1
    exact ⟨this.1, fun h => this.2 h.symm⟩
  · simp only [h, if_false] at *
    exact cb_trans _ _ _ h1 h2

/-! ### numbers -/
theorem cmpI_cases (x y : Int) : (x < y ∧ cmpI x y = -1) ∨ (x = y ∧ cmpI x y = 0) ∨ (y < x ∧ cmpI x y = 1) := by
  unfold cmpI
  by_cases h : x < y
  · simp [h]
  · by_cases h' : y < x
    · simp [h, h']
    · have : x = y := by omega
      simp [this]

/-! ### the keys' order -/
theorem K.ext' {a b : K} (h1 : a.u = b.u) (h2 : a.s = b.s) (h3 : a.k = b.k) : a = b := by cases a; cases b; simp_all
theorem ordK_cases (how : Int) (a b : K) :
    (ordK how a b = -1 ∧ (cmpH how a.u b.u = -1 ∨ a.u = b.u ∧ (b.s < a.s ∨ a.s = b.s ∧ b.k < a.k))) ∨ (ordK how a b = 0 ∧ a = b) ∨
    (ordK how a b = 1 ∧ (cmpH how a.u b.u = 1 ∨ a.u = b.u ∧ (a.s < b.s ∨ a.s = b.s ∧ a.k < b.k))) := by
  unfold ordK or3
  rcases cmpH_three how a.u b.u with h | h | h
  · left; simp [h]
  · have hu := (cmpH_eq how a.u b.u).1 h
    simp only [h, ne_eq, not_true, if_false]
    rcases cmpI_cases b.s a.s with ⟨h1, h2⟩ | ⟨h1, h2⟩ | ⟨h1, h2⟩
    · left; simp [h2, hu, h1]
    · simp only [h2, not_true, if_false]
      rcases cmpI_cases b.k a.k with ⟨h3, h4⟩ | ⟨h3, h4⟩ | ⟨h3, h4⟩
      · left; simp [h4, hu, h1, h3]
      · right; left; exact ⟨h4, K.ext' hu h1.symm h3.symm⟩
      · right; right; simp [h4, hu, h1, h3]
    · right; right; simp [h2, hu, h1]
  · right; right; simp [h]
theorem ordK_three (how : Int) (a b : K) : ordK how a b = -1 ∨ ordK how a b = 0 ∨ ordK how a b = 1 := by
  rcases ordK_cases how a b with h | h | h
  · exact .inl h.1
  · exact .inr (.inl h.1)
  · exact .inr (.inr h.1)
theorem ordK_refl (how : Int) (a : K) : ordK how a a = 0 := by
  unfold ordK or3; rw [cmpH_refl]; simp [cmpI]
theorem ordK_eq (how : Int) (a b : K) : ordK how a b = 0 ↔ a = b := by
  constructor
  · intro h
    rcases ordK_cases how a b with h' | h' | h'
    · omega
    · exact h'.2
    · omega
  · rintro rfl; exact ordK_refl how a
theorem cmpI_anti (x y : Int) : cmpI y x = - cmpI x y := by unfold cmpI; split <;> split <;> first | omega | (split <;> omega) | rfl
theorem or3_neg (x y z : Int) : or3 (-x) (-y) (-z) = - or3 x y z := by unfold or3; split <;> split <;> first | omega | (split <;> split <;> omega) | rfl
theorem ordK_anti (how : Int) (a b : K) : ordK how b a = - ordK how a b := by
  unfold ordK
  rw [cmpH_anti how a.u b.u, cmpI_anti b.s a.s, cmpI_anti b.k a.k, or3_neg]
theorem ordK_trans (how : Int) (a b c : K) (h1 : ordK how a b ≤ 0) (h2 : ordK how b c ≤ 0) : ordK how a c ≤ 0 ∧ (ordK how a b < 0 ∨ ordK how b c < 0 → ordK how a c < 0) := by
  rcases ordK_cases how a b with ⟨e1, p1⟩ | ⟨e1, rfl⟩ | ⟨e1, p1⟩
  · rcases ordK_cases how b c with ⟨e2, p2⟩ | ⟨e2, rfl⟩ | ⟨e2, p2⟩
    · have key : ordK how a c = -1 := by
        rcases p1 with p1 | ⟨pu, p1⟩
        · rcases p2 with p2 | ⟨qu, p2⟩
          · have := (cmpH_trans how a.u b.u c.u (by omega) (by omega)).2 (.inl (by omega))
            rcases cmpH_three how a.u c.u with h | h | h
            · unfold ordK or3; simp [h]
            · omega
            · omega
          · rw [qu] at p1; unfold ordK or3; simp [p1]
        · rcases p2 with p2 | ⟨qu, p2⟩
          · rw [← pu] at p2; unfold ordK or3; simp [p2]
          · have hu : a.u = c.u := pu.trans qu
            rcases ordK_cases how a c with h | h | h
            · exact h.1
            · exfalso; have := h.2; subst this; omega
            · exfalso
              rcases h.2 with h3 | ⟨_, h3⟩
              · rw [hu, cmpH_refl] at h3; omega
              · omega
      exact ⟨by omega, fun _ => by omega⟩
    · exact ⟨by omega, fun _ => by omega⟩
    · omega
  · exact ⟨h2, fun h => by rcases h with h | h <;> omega⟩
  · omega
end Go.Proofs.Ytodnojpolkdlmaa
