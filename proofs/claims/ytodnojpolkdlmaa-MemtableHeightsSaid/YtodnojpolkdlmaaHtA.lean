/-
  Heights: plain laws; what a loop over an iterator that collects keeps.
-/
import Derived.Test.YtodnojpolkdlmaaGoes
import Derived.Test.YtodnojpolkdlmaaTbs
import Derived.Test.YtodnojpolkdlmaaSeeA
namespace Go.Proofs.Ytodnojpolkdlmaa
set_option linter.unusedSimpArgs false
set_option linter.unusedVariables false
open Go.RowKit Go.IntWalk

/-- numbers are small -/
def Nine (S : TS) : Prop := ∀ e ∈ S.l, 0 ≤ e.k.s ∧ e.k.s < 9
theorem mem_ins {l : List E} {i : Nat} {x e : E} (h : e ∈ insE l i x) : e = x ∨ e ∈ l := by
  unfold insE at h
  rcases List.mem_append.1 h with h | h
  · exact .inr (List.mem_of_mem_take h)
  · rcases List.mem_cons.1 h with h | h
    · exact .inl h
    · exact .inr (List.mem_of_mem_drop h)
theorem Nine.add {how seq : Int} {S : TS} {r : Rc} (h : Nine S) (h0 : 0 ≤ seq) (h9 : seq < 9) : Nine (addS how S seq r).1 := by
  unfold addS
  split
  · exact h
  split
  · exact h
  split
  · exact h
  split
  · dsimp only
    split
    · exact h
    · exact h
  · dsimp only
    split
    · exact h
    · intro e he
      rcases mem_ins he with rfl | he
      · exact ⟨h0, h9⟩
      · exact h e he
def fromA : K := ⟨⟨#[]⟩, 72057594037927935, 2⟩
def ffB : ByteArray := ⟨#[255, 255, 255, 255, 255]⟩
def fromB : K := ⟨ffB, 0, 0⟩
theorem cb_nil (a : List UInt8) : 0 ≤ Lib.compareBytes a [] ∧ (Lib.compareBytes a [] = 0 → a = []) := by
  cases a with
  | nil => exact ⟨by decide, fun _ => rfl⟩
  | cons x a => exact ⟨by simp [Lib.compareBytes], fun h => by simp [Lib.compareBytes] at h⟩
theorem all_filter {S : TS} (hok : TOk 0 S) (h9 : Nine S) : S.l.filter (holdsA 0 fromA) = S.l := by
  rw [List.filter_eq_self]
  intro e he
  have hk := hok.k e he
  have hs := h9 e he
  unfold holdsA
  rw [decide_eq_true_iff]
  have hc := cb_nil e.k.u.data.toList
  have hcm : cmpH 0 e.k.u fromA.u = Lib.compareBytes e.k.u.data.toList [] := by unfold cmpH; rw [if_neg (by decide)]; rfl
  rcases ordK_cases 0 e.k fromA with ⟨h1, h2⟩ | ⟨h1, _⟩ | ⟨h1, _⟩
  · exfalso
    have e1 : fromA.s = 72057594037927935 := rfl
    have e2 : fromA.k = 2 := rfl
    rcases h2 with h2 | ⟨_, h2 | ⟨_, h2⟩⟩
    · omega
    · omega
    · omega
  · omega
  · omega
/-- what stands in the loop's test -/
def leFF (e : E) : Bool := Op.bytesLess e.k.u.toList [255, 255, 255, 255, 255] || (e.k.u.toList == [255, 255, 255, 255, 255])
theorem back_eq {S : TS} (hok : TOk 0 S) (h9 : Nine S) : S.l.filter (holdsB 0 fromB) = S.l.filter leFF := by
  apply List.filter_congr
  intro e he
  have hk := hok.k e he
  have hs := h9 e he
  unfold holdsB leFF
  have hff : ffB.data.toList = [255, 255, 255, 255, 255] := rfl
  have hl := cb_less e.k.u.data.toList [255, 255, 255, 255, 255]
  have hq := cb_eq e.k.u.data.toList [255, 255, 255, 255, 255]
  rw [Lib.toList_data]
  have hcm : cmpH 0 e.k.u fromB.u = Lib.compareBytes e.k.u.data.toList ffB.data.toList := by unfold cmpH; rw [if_neg (by decide)]; rfl
  have h3 := cb_three e.k.u.data.toList ffB.data.toList
  rw [hff] at hcm h3
  have e1 : fromB.s = 0 := rfl
  have e2 : fromB.k = 0 := rfl
  have hor : ordK 0 e.k fromB ≤ 0 ↔ cmpH 0 e.k.u fromB.u ≤ 0 := by
    rcases ordK_cases 0 e.k fromB with ⟨h1, h2⟩ | ⟨h1, h2⟩ | ⟨h1, h2⟩
    · refine ⟨fun _ => ?_, fun _ => by omega⟩
      rcases h2 with h2 | ⟨h2, _⟩
      · omega
      · rw [h2, cmpH_refl]; exact Int.le_refl _
    · refine ⟨fun _ => by rw [h2, cmpH_refl]; exact Int.le_refl _, fun _ => by omega⟩
    · refine ⟨fun h => by omega, fun h => ?_⟩
      rcases h2 with h2 | ⟨h2, h4 | ⟨h4, h5⟩⟩
      · omega
      · omega
      · omega
  rw [Bool.eq_iff_iff, decide_eq_true_iff, Bool.or_eq_true, ← hl, beq_iff_eq, ← hq, hor, hcm]
  omega
/-- a loop over an iterator that collects into a box: what it keeps -/
structure LpI (K : Nat → Prop) (w0 : World) (c : Nat) (wc : World) (c' bx bz : Nat) (vz : Value) (nz : Nat) (cz : List Value) (R : Nat → Prop) (l : List E) (W : World) : Prop where
  bel : Below c wc W
  up : ∀ k, k < c' → R k
  dn : ∀ k, R k → k < W.heap.size
  bc : c ≤ bx ∧ bx < c' ∧ c ≤ bz ∧ bz < c' ∧ bx ≠ bz ∧ c ≤ W.heap.size
  ex : ∃ v, Blk W bx 40 #[v] ∧ Own W c 47 4 v l.length (entsC l) ∧ (∀ k, v.ownBlock = some k → R k ∧ k ≠ bx ∧ k ≠ bz ∧ vz.ownBlock ≠ some k ∧ ¬ K k)
  kp : ∀ k, K k → k < c' ∧ k ≠ bx ∧ W.heap[k]? = w0.heap[k]?
  oz : Blk W bz 40 #[vz] ∧ Own W c 47 4 vz nz cz ∧ ∀ k, vz.ownBlock = some k → R k ∧ k ≠ bx
theorem LpI.keep {K : Nat → Prop} {w0 : World} {c : Nat} {wc : World} {c' bx bz : Nat} {vz : Value} {nz : Nat} {cz : List Value} {R : Nat → Prop} {l : List E} {W W' : World} (h : LpI K w0 c wc c' bx bz vz nz cz R l W) (hcc : c ≤ c') (hc : Ch W W' (fun j => ¬ R j)) : LpI K w0 c wc c' bx bz vz nz cz R l W' := by
  have hk : ∀ j, R j → W'.heap[j]? = W.heap[j]? := fun j hj => hc.block j (h.dn j hj) fun hn => hn hj
  obtain ⟨v, h1, h2, h3⟩ := h.ex
  obtain ⟨z1, z2, z3⟩ := h.oz
  obtain ⟨b1, b2, b3, b4, b5, b6⟩ := h.bc
  have hz := hc.size
  refine ⟨h.bel.trans (hc.toBelow b6 fun j hj hn => hn (h.up j (by omega))), h.up, fun j hj => Nat.lt_of_lt_of_le (h.dn j hj) hz, ⟨b1, b2, b3, b4, b5, by omega⟩, ⟨v, (hk bx (h.up bx b2)).trans h1, h2.of_block fun k hk' => hk k (h3 k hk').1, h3⟩, fun k hk' => ⟨(h.kp k hk').1, (h.kp k hk').2.1, (hk k (h.up k (h.kp k hk').1)).trans (h.kp k hk').2.2⟩,
    (hk bz (h.up bz b4)).trans z1, z2.of_block fun k hk' => hk k (z3 k hk').1, z3⟩
theorem LpI.alloc {K : Nat → Prop} {w0 : World} {c : Nat} {wc : World} {c' bx bz : Nat} {vz : Value} {nz : Nat} {cz : List Value} {R : Nat → Prop} {l : List E} {W : World} (h : LpI K w0 c wc c' bx bz vz nz cz R l W) (hcc : c ≤ c') (cs : Array Value) (t : TypeId) :
    Turn (fun _ => False) R (fun k => R k ∨ k = W.heap.size) W (W.alloc (.cells cs t)) ∧ LpI K w0 c wc c' bx bz vz nz cz (fun k => R k ∨ k = W.heap.size) l (W.alloc (.cells cs t)) := by
  have hz : (W.alloc (.cells cs t)).heap.size = W.heap.size + 1 := by simp
  refine ⟨⟨Ch.below ((Below.refl _ _).alloc (Nat.le_refl _) _), fun k hk => .inl hk, fun k hk => hk.elim .inl (fun e => .inr ⟨by omega, by omega⟩)⟩, ?_⟩
  have h2 := h.keep hcc (W' := W.alloc (.cells cs t)) (Ch.below ((Below.refl _ _).alloc (Nat.le_refl _) _))
  obtain ⟨v, h1, h3, h4⟩ := h2.ex
  exact ⟨h2.bel, fun j hj => .inl (h2.up j hj), fun j hj => by rcases hj with hj | hj; (have := h.dn j hj; omega); omega, h2.bc, ⟨v, h1, h3, fun k hk => ⟨.inl (h4 k hk).1, (h4 k hk).2⟩⟩, h2.kp, h2.oz.1, h2.oz.2.1, fun k hk => ⟨.inl (h2.oz.2.2 k hk).1, (h2.oz.2.2 k hk).2⟩⟩
end Go.Proofs.Ytodnojpolkdlmaa
