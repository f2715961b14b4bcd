/-
  The tombstones' order; a table as two lists.
-/
import Derived.Test.YtodnojpolkdlmaaTmH
namespace Go.Proofs.Ytodnojpolkdlmaa
set_option linter.unusedSimpArgs false
set_option linter.unusedVariables false
open Go.RowKit Go.IntWalk

theorem Tb.ext' {a b : Tb} (h1 : a.b = b.b) (h2 : a.e = b.e) (h3 : a.s = b.s) : a = b := by cases a; cases b; simp_all
theorem or3_le {x y z : Int} (h : or3 x y z ≤ 0) : x ≤ 0 ∧ (x = 0 → y ≤ 0 ∧ (y = 0 → z ≤ 0)) := by
  unfold or3 at h
  by_cases hx : x = 0
  · subst hx
    by_cases hy : y = 0
    · subst hy
      simp at h
      exact ⟨by omega, fun _ => ⟨by omega, fun _ => h⟩⟩
    · simp [hy] at h
      exact ⟨by omega, fun _ => ⟨h, fun h0 => absurd h0 hy⟩⟩
  · simp [hx] at h
    exact ⟨h, fun h0 => absurd h0 hx⟩
theorem or3_first {x y z : Int} (h : x ≠ 0) : or3 x y z = x := by unfold or3; simp [h]
theorem or3_zero {y z : Int} : or3 0 y z = if y ≠ 0 then y else z := by unfold or3; simp
theorem cmpI_trans (a b c : Int) (h1 : cmpI b a ≤ 0) (h2 : cmpI c b ≤ 0) : cmpI c a ≤ 0 ∧ (cmpI b a < 0 ∨ cmpI c b < 0 → cmpI c a < 0) := by
  rcases cmpI_cases b a with h | h | h <;> rcases cmpI_cases c b with h' | h' | h' <;> rcases cmpI_cases c a with h'' | h'' | h'' <;> omega
theorem ordT_refl (how : Int) (a : Tb) : ordT how a a = 0 := by unfold ordT or3; rw [cmpH_refl, cmpH_refl]; simp [cmpI]
theorem ordT_anti (how : Int) (a b : Tb) : ordT how b a = - ordT how a b := by
  unfold ordT
  rw [cmpH_anti how a.b b.b, cmpH_anti how a.e b.e, cmpI_anti b.s a.s, or3_neg]
theorem ordT_eq (how : Int) (a b : Tb) : ordT how a b = 0 ↔ a = b := by
  constructor
  · intro h
    unfold ordT at h
    by_cases h1 : cmpH how a.b b.b = 0
    · rw [h1, or3_zero] at h
      by_cases h2 : cmpH how a.e b.e = 0
      · simp [h2] at h
        rcases cmpI_cases b.s a.s with h3 | h3 | h3
        · omega
        · exact Tb.ext' ((cmpH_eq how _ _).1 h1) ((cmpH_eq how _ _).1 h2) h3.1.symm
        · omega
      · simp [h2] at h
    · rw [or3_first h1] at h
      exact absurd h h1
  · rintro rfl; exact ordT_refl how a
theorem ordT_trans (how : Int) (a b c : Tb) (h1 : ordT how a b ≤ 0) (h2 : ordT how b c ≤ 0) : ordT how a c ≤ 0 ∧ (ordT how a b < 0 ∨ ordT how b c < 0 → ordT how a c < 0) := by
  obtain ⟨p1, p2⟩ := or3_le h1
  obtain ⟨q1, q2⟩ := or3_le h2
  obtain ⟨r1, r2⟩ := cmpH_trans how a.b b.b c.b p1 q1
  unfold ordT at *
  by_cases ha : cmpH how a.b b.b = 0
  · by_cases hb : cmpH how b.b c.b = 0
    · have e1 := (cmpH_eq how _ _).1 ha
      have e2 := (cmpH_eq how _ _).1 hb
      have hc : cmpH how a.b c.b = 0 := by rw [e1]; exact hb
      rw [ha, or3_zero] at h1
      rw [hb, or3_zero] at h2
      rw [ha, hb, hc, or3_zero, or3_zero, or3_zero]
      obtain ⟨p3, p4⟩ := p2 ha
      obtain ⟨q3, q4⟩ := q2 hb
      obtain ⟨s1, s2⟩ := cmpH_trans how a.e b.e c.e p3 q3
      by_cases ga : cmpH how a.e b.e = 0
      · by_cases gb : cmpH how b.e c.e = 0
        · have f1 := (cmpH_eq how _ _).1 ga
          have gc : cmpH how a.e c.e = 0 := by rw [f1]; exact gb
          rw [ga, gb, gc]
          simp only [ne_eq, not_true, if_false]
          exact cmpI_trans a.s b.s c.s (p4 ga) (q4 gb)
        · have := s2 (.inr (by omega))
          have gc : cmpH how a.e c.e ≠ 0 := by omega
          rw [if_pos gc]
          exact ⟨by omega, fun _ => this⟩
      · have := s2 (.inl (by omega))
        have gc : cmpH how a.e c.e ≠ 0 := by omega
        rw [if_pos gc]
        exact ⟨by omega, fun _ => this⟩
    · have := r2 (.inr (by omega))
      rw [or3_first (x := cmpH how a.b c.b) (by omega)]
      exact ⟨by omega, fun _ => this⟩
  · have := r2 (.inl (by omega))
    rw [or3_first (x := cmpH how a.b c.b) (by omega)]
    exact ⟨by omega, fun _ => this⟩
/-- tombstones strictly in order -/
def SortT (how : Int) (l : List Tb) : Prop := l.Pairwise fun a b => ordT how a b < 0
def SortE (how : Int) (l : List E) : Prop := l.Pairwise fun a b => ordK how a.k b.k < 0
theorem SortT.mono {how : Int} {l : List Tb} (h : SortT how l) (x : Tb) (i j : Nat) (y z : Tb) (hij : i ≤ j) (hy : l[i]? = some y) (hz : l[j]? = some z) (ho : ordT how z x < 0) : ordT how y x < 0 := by
  rcases Nat.lt_or_ge i j with hlt | hge
  · obtain ⟨hi, rfl⟩ := List.getElem?_eq_some_iff.1 hy
    obtain ⟨hj, rfl⟩ := List.getElem?_eq_some_iff.1 hz
    have := List.pairwise_iff_getElem.1 h i j hi hj hlt
    exact (ordT_trans how _ _ _ (by omega) (by omega)).2 (.inl this)
  · obtain rfl : i = j := by omega
    rw [hy] at hz
    injection hz with hz
    rw [hz]; exact ho
end Go.Proofs.Ytodnojpolkdlmaa
