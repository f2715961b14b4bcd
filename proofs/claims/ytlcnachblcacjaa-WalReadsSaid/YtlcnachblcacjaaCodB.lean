/-
  The walks of the comparisons and the orders of keys, of the program's and of the document's: each comes to the plain function of CodA.
-/
import Derived.Test.YtlcnachblcacjaaChecked
import Derived.Test.YtlcnachblcacjaaCodA
import Derived.WalkKit
import Derived.WalkSpells
import Derived.WalkLawsBesides
import Derived.StillTailTactics
import Derived.Lib.Hide
import Derived.Deep.Light
import Derived.Deep.QuietTactic
import Derived.BigQuiet
namespace Go.Proofs.Ytlcnachblcacjaa
open Go.RowKit

theorem ret_int {k : IntKind} {a b : Int} (h : a = b) : Ending.returned (.int k a) = .returned (.int k b) := by rw [h]
theorem ret_str {a b : ByteArray} (h : a = b) : Ending.returned (.string a) = .returned (.string b) := by rw [h]
theorem ret_bool {a b : Bool} (h : a = b) : Ending.returned (.bool a) = .returned (.bool b) := by rw [h]
theorem lessB (a b : ByteArray) : Op.bytesLess a.toList b.toList = true ↔ Lib.compareBytes a.data.toList b.data.toList < 0 := by
  rw [Lib.toList_data, Lib.toList_data, cb_less]
theorem eqB (a b : ByteArray) : (a.toList == b.toList) = true ↔ a = b := by
  rw [Lib.toList_data, Lib.toList_data, beq_iff_eq]
  exact ⟨data_inj, fun h => by rw [h]⟩

def rcmpB (e l h : Bool) : Int := if e then 0 else if h then (if l then 1 else -1) else (if l then -1 else 1)
theorem rcmp (how : Int) (a b : ByteArray) : rcmpB (a.toList == b.toList) (Op.bytesLess a.toList b.toList) (how == 1) = cmpH how a b := by
  by_cases h : a = b
  · rw [(eqB a b).2 h, h, cmpH_refl]; rfl
  · have he : (a.toList == b.toList) = false := by
      cases hx : (a.toList == b.toList) with
      | false => rfl
      | true => exact absurd ((eqB a b).1 hx) h
    have h0 : Lib.compareBytes a.data.toList b.data.toList ≠ 0 := fun e => h (data_inj ((cb_eq _ _).1 e))
    have h3 := cb_three a.data.toList b.data.toList
    have hl := lessB a b
    rw [he]
    unfold cmpH rcmpB
    rw [cb_anti a.data.toList b.data.toList]
    cases hL : Op.bytesLess a.toList b.toList with
    | true =>
      have := hl.1 hL
      by_cases hh : how = 1
      · simp [hh]; omega
      · simp [hh]; omega
    | false =>
      have : ¬ Lib.compareBytes a.data.toList b.data.toList < 0 := fun e => by have := hl.2 e; rw [hL] at this; cases this
      by_cases hh : how = 1
      · simp [hh]; omega
      · simp [hh]; omega
/-! ### numbers -/
theorem ne_zero {x : Int} (h : (x != 0) = true) : x ≠ 0 := by simpa using h
theorem eq_zero {x : Int} (h : (x != 0) = false) : x = 0 := by simpa using h
/-! ### keys -/
theorem two_boxes (w : World) (cs ds : Array Value) (t t' : TypeId) : ∃ w1, (w.alloc (.cells cs t)).alloc (.cells ds t') = w1 ∧ Below w.heap.size w w1 ∧ w1.heap.size = w.heap.size + 2 ∧
    (∀ i, w1.cell? ⟨w.heap.size, i, none⟩ = cs[i]?) ∧ (∀ i, w1.cell? ⟨w.heap.size + 1, i, none⟩ = ds[i]?) := by
  refine ⟨_, rfl, ((Below.refl _ _).alloc (Nat.le_refl _) _).alloc (by simp) _, by simp, ?_, ?_⟩
  · intro i
    have e : ((w.alloc (.cells cs t)).alloc (.cells ds t')).heap[w.heap.size]? = some (.cells cs t) := by
      show ((w.heap.push _).push _)[w.heap.size]? = _
      simp only [Array.getElem?_push, Array.size_push]
      rw [if_neg (by omega), if_pos trivial]
    unfold World.cell?
    rw [e]
    rfl
  · intro i
    have e : ((w.alloc (.cells cs t)).alloc (.cells ds t')).heap[w.heap.size + 1]? = some (.cells ds t') := by
      show ((w.heap.push _).push _)[w.heap.size + 1]? = _
      simp only [Array.getElem?_push, Array.size_push]
      rw [if_pos trivial]
    unfold World.cell?
    rw [e]
    rfl
theorem rord (how : Int) (a b : K) : (if cmpH how a.u b.u ≠ 0 then cmpH how a.u b.u else if a.s ≠ b.s then (if b.s < a.s then -1 else 1) else if a.k ≠ b.k then (if b.k < a.k then -1 else 1) else 0) = ordK how a b := by
  unfold ordK or3 cmpI
  repeat' split
  all_goals omega
end Go.Proofs.Ytlcnachblcacjaa
