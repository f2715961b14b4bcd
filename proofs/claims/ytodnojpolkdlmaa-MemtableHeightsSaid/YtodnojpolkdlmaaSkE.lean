/-
  A skiplist: where the last nodes' storeys lie; what a change leaves alone.
-/
import Derived.Test.YtodnojpolkdlmaaSkC
import Derived.Test.YtodnojpolkdlmaaSkB
namespace Go.Proofs.Ytodnojpolkdlmaa
open Go.RowKit Go.IntWalk

theorem lastI {w : World} {m : Nd} {Q : List Nd} {i : Nat} : ∀ {P : List Nd} (ab ao hx hh : Nat), NodesI w m Q i P → i < hh → w.cell? ⟨ab, ao + 4, none⟩ = some (.slice (some ⟨hx, 0, none⟩) hh hh) → w.cell? ⟨hx, i, none⟩ = some (ptrV (nxtB i (P ++ Q))) → w.frozen? ⟨hx, i, none⟩ = false →
    ∃ ab' ao' hh', lastA ⟨ab, ao, none⟩ i P = ⟨ab', ao', none⟩ ∧ w.cell? ⟨ab', ao' + 4, none⟩ = some (.slice (some ⟨lastX hx i P, 0, none⟩) hh' hh') ∧ i < hh' ∧ w.cell? ⟨lastX hx i P, i, none⟩ = some (ptrV (nxtB i Q)) ∧ w.frozen? ⟨lastX hx i P, i, none⟩ = false
  | [], ab, ao, _, hh, _, h1, h2, h3, h4 => ⟨ab, ao, hh, rfl, h2, h1, h3, h4⟩
  | n :: P, ab, ao, hx, hh, h, h1, h2, h3, h4 => by
    by_cases hi : i < n.h
    · have e1 : lastA ⟨ab, ao, none⟩ i (n :: P) = lastA ⟨n.nb, 0, none⟩ i P := by show lastA (if i < n.h then _ else _) i P = _; rw [if_pos hi]
      have e2 : lastX hx i (n :: P) = lastX n.xb i P := by show lastX (if i < n.h then _ else _) i P = _; rw [if_pos hi]
      rw [e1, e2]
      have hr := (h.1.2.1.cell i).trans (rowI_get m Q n.h P i i hi)
      rw [if_neg (Nat.lt_irrefl i)] at hr
      exact lastI n.nb 0 n.xb n.h h.2 hi (h.1.1.cell 4) hr (h.1.2.1.frozen i)
    · have e1 : lastA ⟨ab, ao, none⟩ i (n :: P) = lastA ⟨ab, ao, none⟩ i P := by show lastA (if i < n.h then _ else _) i P = _; rw [if_neg hi]
      have e2 : lastX hx i (n :: P) = lastX hx i P := by show lastX (if i < n.h then _ else _) i P = _; rw [if_neg hi]
      have e3 : nxtB i (n :: P ++ Q) = nxtB i (P ++ Q) := by show (if i < n.h then _ else nxtB i (P ++ Q)) = _; rw [if_neg hi]
      rw [e3] at h3
      rw [e1, e2]
      exact lastI ab ao hx hh h.2 h1 h2 h3 h4
/-- w' is w but for the blocks F and new ones -/
structure Chg (w w' : World) (F : Nat → Prop) : Prop where
  os : w'.os = w.os
  tape : w'.tape = w.tape
  output : w'.output = w.output
  size : w.heap.size ≤ w'.heap.size
  block : ∀ k, k < w.heap.size → ¬ F k → w'.heap[k]? = w.heap[k]?
theorem Chg.below {w w' : World} {F : Nat → Prop} (h : Below w.heap.size w w') : Chg w w' F := ⟨h.os, h.tape, h.output, h.size, fun k hk _ => h.block k hk⟩
theorem Chg.trans {w w1 w2 : World} {F : Nat → Prop} (h : Chg w w1 F) (k : Chg w1 w2 F) : Chg w w2 F :=
  ⟨k.os.trans h.os, k.tape.trans h.tape, k.output.trans h.output, Nat.le_trans h.size k.size, fun j hj hn => (k.block j (Nat.lt_of_lt_of_le hj h.size) hn).trans (h.block j hj hn)⟩
theorem Chg.refl (w : World) (F : Nat → Prop) : Chg w w F := ⟨rfl, rfl, rfl, Nat.le_refl _, fun _ _ _ => rfl⟩
theorem Chg.next {w w1 w2 : World} {F : Nat → Prop} (h : Chg w w1 F) (k : Below w1.heap.size w1 w2) : Chg w w2 F := h.trans (Chg.below k)
theorem Chg.set_ {w w1 : World} {F : Nat → Prop} (h : Chg w w1 F) (b i : Nat) (v : Value) (hF : F b ∨ w.heap.size ≤ b) : Chg w (w1.setCell ⟨b, i, none⟩ v) F :=
  ⟨h.os, h.tape, h.output, by simpa using h.size, fun j hj hn => (Below.heap_setCell w1 _ v j (by
    show j ≠ b
    rcases hF with hF | hF
    · intro e; exact hn (e ▸ hF)
    · omega)).trans (h.block j hj hn)⟩
theorem Chg.more {w w' : World} {F G : Nat → Prop} (h : Chg w w' F) (hFG : ∀ k, k < w.heap.size → F k → G k) : Chg w w' G :=
  ⟨h.os, h.tape, h.output, h.size, fun k hk hn => h.block k hk fun hF => hn (hFG k hk hF)⟩
theorem Chg.toBelow {w w' : World} {F : Nat → Prop} {B : Nat} (h : Chg w w' F) (hB : B ≤ w.heap.size) (hF : ∀ k, F k → B ≤ k) : Below B w w' :=
  ⟨h.os, h.tape, h.output, h.size, fun k hk => h.block k (Nat.lt_of_lt_of_le hk hB) fun hf => by have := hF k hf; omega⟩
def newRow (Q : List Nd) (h i : Nat) : Array Value := ((List.range h).map fun j => if j < i then ptrV (nxtB j Q) else Value.pointer none).toArray
theorem newRow_zero (Q : List Nd) (h : Nat) : newRow Q h 0 = nilRow h := by
  unfold newRow nilRow
  apply Array.ext'
  apply List.ext_getElem
  · simp
  · intro j h1 h2
    simp
theorem newRow_all (Q : List Nd) (h : Nat) : newRow Q h h = rowN Q h := by
  unfold newRow rowN
  congr 1
  apply List.map_congr_left
  intro j hj
  rw [if_pos (by simpa using hj)]
theorem newRow_set (Q : List Nd) (h i : Nat) : (newRow Q h i).setIfInBounds i (ptrV (nxtB i Q)) = newRow Q h (i + 1) := by
  unfold newRow
  apply Array.ext'
  apply List.ext_getElem
  · simp
  · intro j h1 h2
    simp at h1
    simp only [Array.toList_setIfInBounds, List.getElem_set, List.getElem_map, List.getElem_range]
    by_cases h : i = j
    · subst h; rw [if_pos rfl, if_pos (by omega)]
    · rw [if_neg h]
      by_cases h3 : j < i
      · rw [if_pos h3, if_pos (by omega)]
      · rw [if_neg h3, if_neg (by omega)]
theorem newRow_noslice (Q : List Nd) (h i j : Nat) (A : Option Addr) (n c : Nat) : (newRow Q h i)[j]? ≠ some (.slice A n c) := by
  intro e
  have hj := (Array.getElem?_eq_some_iff.1 e).1
  unfold newRow at e hj
  simp at hj
  simp [hj] at e
  split at e
  · cases hq : nxtB j Q <;> rw [hq] at e <;> simp [ptrV] at e
  · cases e
def skF (g hb : Nat) (S : List Nd) (k : Nat) : Prop := k = g ∨ k = hb ∨ k ∈ blksOf S
structure PutS (w wr : World) (g hb ob : Nat) (tc : Array Value) (m : Nd) (P Q : List Nd) (i : Nat) : Prop where
  tab : Blk wr g 68 tc
  row : Blk wr hb 77 (rowI m Q 12 P i)
  nodes : NodesI wr m Q i P
  nd : Blk wr m.nb 66 (nodeC m)
  nx : Blk wr m.xb 77 (newRow Q m.h i)
  out : Blk wr ob 77 (lastRow ⟨g, 2, none⟩ P 0)
  chg : Chg w wr (skF g hb (P ++ Q))
theorem PutS.drew {w wr wr' : World} {g hb ob : Nat} {tc : Array Value} {m : Nd} {P Q : List Nd} {i : Nat} (h : PutS w wr g hb ob tc m P Q i) (hb' : ∀ k : Nat, wr'.heap[k]? = wr.heap[k]?) (hc : Chg wr wr' (fun _ => False)) : PutS w wr' g hb ob tc m P Q i :=
  ⟨(hb' _).trans h.tab, (hb' _).trans h.row, h.nodes.keep fun k _ => hb' k, (hb' _).trans h.nd, (hb' _).trans h.nx, (hb' _).trans h.out, h.chg.trans (hc.more fun _ _ hf => hf.elim)⟩
theorem PutS.step {w wr : World} {g hb ob : Nat} {tc : Array Value} {m : Nd} {P Q : List Nd} {i : Nat} (h : PutS w wr g hb ob tc m P Q i) (hi : i < m.h) (h12 : i < 12)
    (hnd : (g :: hb :: blksOf (P ++ Q)).Nodup) (hlt : ∀ k, skF g hb (P ++ Q) k → k < w.heap.size) (h1 : w.heap.size ≤ ob) (h2 : ob < m.xb) (h3 : m.xb < m.nb) :
    PutS w ((wr.setCell ⟨m.xb, i, none⟩ (ptrV (nxtB i Q))).setCell ⟨lastX hb i P, i, none⟩ (ptrV (some m.nb))) g hb ob tc m P Q (i + 1) := by
  have n1 := List.nodup_cons.1 hnd
  have hlx : skF g hb (P ++ Q) (lastX hb i P) ∧ g ≠ lastX hb i P := by
    rcases lastX_mem (i := i) P hb with e | ⟨n, hn, e⟩
    · rw [e]; exact ⟨.inr (.inl rfl), fun e => n1.1 (e ▸ List.mem_cons_self ..)⟩
    · have hx := (mem_blks (List.mem_append_left Q hn)).2
      rw [e]; exact ⟨.inr (.inr hx), fun e => n1.1 (e ▸ List.mem_cons_of_mem _ hx)⟩
  have hlz := hlt _ hlx.1
  have hgz := hlt g (.inl rfl)
  have hhz := hlt hb (.inr (.inl rfl))
  have hbz : ∀ k, k ∈ blksOf (P ++ Q) → k < w.heap.size := fun k hk => hlt k (.inr (.inr hk))
  have k1 := h.nodes.keep (w' := wr.setCell ⟨m.xb, i, none⟩ (ptrV (nxtB i Q))) fun k hk => Below.heap_setCell wr _ _ k (by show k ≠ m.xb; have := hbz k hk; omega)
  refine ⟨(h.tab.far (p := ⟨m.xb, i, none⟩) (by show g ≠ m.xb; omega) _).far (p := ⟨lastX hb i P, i, none⟩) hlx.2 _, head_step hi h12 (h.row.far (p := ⟨m.xb, i, none⟩) (by show hb ≠ m.xb; omega) _) n1.2, NodesI.step hi hb k1 n1.2,
    (h.nd.far (p := ⟨m.xb, i, none⟩) (by show m.nb ≠ m.xb; omega) _).far (p := ⟨lastX hb i P, i, none⟩) (by show m.nb ≠ lastX hb i P; omega) _, ?_,
    (h.out.far (p := ⟨m.xb, i, none⟩) (by show ob ≠ m.xb; omega) _).far (p := ⟨lastX hb i P, i, none⟩) (by show ob ≠ lastX hb i P; omega) _, (h.chg.set_ m.xb i _ (.inr (by omega))).set_ _ i _ (.inl hlx.1)⟩
  rw [← newRow_set]
  exact (h.nx.set_ i _).far (p := ⟨lastX hb i P, i, none⟩) (by show m.xb ≠ lastX hb i P; omega) _
end Go.Proofs.Ytodnojpolkdlmaa
