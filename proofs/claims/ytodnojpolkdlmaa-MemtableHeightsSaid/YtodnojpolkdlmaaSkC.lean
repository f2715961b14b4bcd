/-
  A skiplist: a node comes in, storey by storey.
-/
import Derived.Test.YtodnojpolkdlmaaSkA
namespace Go.Proofs.Ytodnojpolkdlmaa
open Go.RowKit Go.IntWalk

/-- the row of a node that A and then Q follow, the new node m standing between them on the storeys below i -/
def rowI (m : Nd) (Q : List Nd) (h : Nat) (A : List Nd) (i : Nat) : Array Value := ((List.range h).map fun j => if j < i then ptrV (nxtB j (A ++ m :: Q)) else ptrV (nxtB j (A ++ Q))).toArray
theorem rowI_get (m : Nd) (Q : List Nd) (h : Nat) (A : List Nd) (i j : Nat) (hj : j < h) : (rowI m Q h A i)[j]? = some (if j < i then ptrV (nxtB j (A ++ m :: Q)) else ptrV (nxtB j (A ++ Q))) := by
  unfold rowI; simp [hj]
theorem rowI_zero (m : Nd) (Q : List Nd) (h : Nat) (A : List Nd) : rowI m Q h A 0 = rowN (A ++ Q) h := by
  unfold rowI rowN; simp
theorem nxtB_some {j : Nat} {A : List Nd} (h : nxtB j A ≠ none) (B C : List Nd) : nxtB j (A ++ B) = nxtB j (A ++ C) := by
  obtain ⟨_, n, _, _, _, _, h5⟩ := nxtB_split h
  rw [h5 B, h5 C]
theorem rowI_all (m : Nd) (Q : List Nd) (h : Nat) (A : List Nd) : rowI m Q h A m.h = rowN (A ++ m :: Q) h := by
  unfold rowI rowN
  congr 1
  apply List.map_congr_left
  intro j _
  split
  · rfl
  · rename_i hj
    congr 1
    by_cases hn : nxtB j A = none
    · rw [nxtB_none hn, nxtB_none hn]
      show nxtB j Q = if j < m.h then _ else nxtB j Q
      rw [if_neg hj]
    · exact nxtB_some hn _ _
theorem rowI_set (m : Nd) (Q : List Nd) (h : Nat) (A : List Nd) (i : Nat) (hn : nxtB i A = none) (hm : i < m.h) (_hi : i < h) : (rowI m Q h A i).setIfInBounds i (ptrV (some m.nb)) = rowI m Q h A (i + 1) := by
  unfold rowI
  apply Array.ext'
  apply List.ext_getElem
  · simp
  · intro j h1 h2
    simp at h1
    simp only [Array.toList_setIfInBounds, List.getElem_set, List.getElem_map, List.getElem_range]
    by_cases h : i = j
    · subst h
      rw [if_pos rfl, if_pos (by omega), nxtB_none hn]
      show _ = ptrV (if i < m.h then _ else _)
      rw [if_pos hm]
    · rw [if_neg h]
      by_cases h3 : j < i
      · rw [if_pos h3, if_pos (by omega)]
      · rw [if_neg h3, if_neg (by omega)]
theorem rowI_same (m : Nd) (Q : List Nd) (h : Nat) (A : List Nd) (i : Nat) (hn : nxtB i A ≠ none ∨ h ≤ i) : rowI m Q h A (i + 1) = rowI m Q h A i := by
  unfold rowI
  congr 1
  apply List.map_congr_left
  intro j hj
  have hjh : j < h := by simpa using hj
  by_cases h1 : j < i
  · rw [if_pos (by omega), if_pos h1]
  · rw [if_neg h1]
    by_cases h2 : j = i
    · subst h2
      rw [if_pos (by omega)]
      rcases hn with hn | hn
      · rw [nxtB_some hn]
      · omega
    · rw [if_neg (by omega)]
/-- nodes P ahead of Q, the new node m between them on the storeys below i -/
def NodesI (w : World) (m : Nd) (Q : List Nd) (i : Nat) : List Nd → Prop
  | [] => Nodes w Q
  | n :: P => (Blk w n.nb 66 (nodeC n) ∧ Blk w n.xb 77 (rowI m Q n.h P i) ∧ 1 ≤ n.h ∧ n.h ≤ 12) ∧ NodesI w m Q i P
theorem NodesI.start {w : World} {m : Nd} {Q : List Nd} : ∀ {P : List Nd}, Nodes w (P ++ Q) → NodesI w m Q 0 P
  | [], h => h
  | _ :: _, h => ⟨⟨h.1.1, by rw [rowI_zero]; exact h.1.2.1, h.1.2.2⟩, NodesI.start h.2⟩
theorem NodesI.done {w : World} {m : Nd} {Q : List Nd} (hm : Blk w m.nb 66 (nodeC m) ∧ Blk w m.xb 77 (rowN Q m.h) ∧ 1 ≤ m.h ∧ m.h ≤ 12) : ∀ {P : List Nd}, NodesI w m Q m.h P → Nodes w (P ++ m :: Q)
  | [], h => ⟨hm, h⟩
  | _ :: _, h => ⟨⟨h.1.1, by have := h.1.2.1; rwa [rowI_all] at this, h.1.2.2⟩, NodesI.done hm h.2⟩
def blksOf (S : List Nd) : List Nat := S.flatMap fun n => [n.nb, n.xb]
theorem mem_blks {S : List Nd} {n : Nd} (h : n ∈ S) : n.nb ∈ blksOf S ∧ n.xb ∈ blksOf S := by
  unfold blksOf
  exact ⟨List.mem_flatMap.2 ⟨n, h, by simp⟩, List.mem_flatMap.2 ⟨n, h, by simp⟩⟩
theorem Nodes.keep {w w' : World} : ∀ {S : List Nd}, Nodes w S → (∀ k, k ∈ blksOf S → w'.heap[k]? = w.heap[k]?) → Nodes w' S
  | [], _, _ => trivial
  | n :: S, h, hk => by
    have h1 := mem_blks (List.mem_cons_self (a := n) (l := S))
    exact ⟨⟨(hk _ h1.1).trans h.1.1, (hk _ h1.2).trans h.1.2.1, h.1.2.2⟩, Nodes.keep h.2 fun k hm => hk k (by unfold blksOf at *; rw [List.flatMap_cons]; exact List.mem_append_right _ hm)⟩
theorem NodesI.keep {w w' : World} {m : Nd} {Q : List Nd} {i : Nat} : ∀ {P : List Nd}, NodesI w m Q i P → (∀ k, k ∈ blksOf (P ++ Q) → w'.heap[k]? = w.heap[k]?) → NodesI w' m Q i P
  | [], h, hk => Nodes.keep h hk
  | n :: P, h, hk => by
    have h1 := mem_blks (List.mem_cons_self (a := n) (l := P ++ Q))
    exact ⟨⟨(hk _ h1.1).trans h.1.1, (hk _ h1.2).trans h.1.2.1, h.1.2.2⟩, NodesI.keep h.2 fun k hm => hk k (by unfold blksOf at *; rw [List.cons_append, List.flatMap_cons]; exact List.mem_append_right _ hm)⟩
/-- the row of the last node on storey i, the head's if there is none -/
def lastX (hx : Nat) (i : Nat) : List Nd → Nat
  | [] => hx
  | n :: P => lastX (if i < n.h then n.xb else hx) i P
theorem lastX_none {i : Nat} : ∀ {A : List Nd} (hx : Nat), nxtB i A = none → lastX hx i A = hx
  | [], _, _ => rfl
  | n :: A, hx, h => by
    unfold nxtB at h
    split at h
    · cases h
    · rename_i h1
      show lastX (if i < n.h then _ else hx) i A = hx
      rw [if_neg h1]; exact lastX_none hx h
theorem lastX_mem {i : Nat} : ∀ (A : List Nd) (hx : Nat), lastX hx i A = hx ∨ ∃ n ∈ A, lastX hx i A = n.xb
  | [], _ => .inl rfl
  | n :: A, hx => by
    rcases lastX_mem A (if i < n.h then n.xb else hx) with h | ⟨m, hm, h⟩
    · by_cases h1 : i < n.h
      · rw [if_pos h1] at h
        exact .inr ⟨n, List.mem_cons_self .., by show lastX (if i < n.h then _ else _) i A = _; rw [if_pos h1]; exact h⟩
      · rw [if_neg h1] at h
        exact .inl (by show lastX (if i < n.h then _ else _) i A = _; rw [if_neg h1]; exact h)
    · exact .inr ⟨m, List.mem_cons_of_mem _ hm, h⟩
theorem lastX_in {i : Nat} : ∀ {A : List Nd} (hx : Nat), nxtB i A ≠ none → ∃ n ∈ A, lastX hx i A = n.xb
  | [], _, h => absurd rfl h
  | n :: A, hx, h => by
    by_cases h1 : i < n.h
    · rcases lastX_mem (i := i) A n.xb with h2 | ⟨m, hm, h2⟩
      · exact ⟨n, List.mem_cons_self .., by show lastX (if i < n.h then _ else _) i A = _; rw [if_pos h1]; exact h2⟩
      · exact ⟨m, List.mem_cons_of_mem _ hm, by show lastX (if i < n.h then _ else _) i A = _; rw [if_pos h1]; exact h2⟩
    · have h2 : nxtB i (n :: A) = nxtB i A := by show (if i < n.h then _ else _) = _; rw [if_neg h1]
      rw [h2] at h
      obtain ⟨m, hm, h3⟩ := lastX_in hx h
      exact ⟨m, List.mem_cons_of_mem _ hm, by show lastX (if i < n.h then _ else _) i A = _; rw [if_neg h1]; exact h3⟩
/-- one storey more -/
theorem NodesI.step {w : World} {m : Nd} {Q : List Nd} {i : Nat} (hm : i < m.h) : ∀ {P : List Nd} (hx : Nat), NodesI w m Q i P → (hx :: blksOf (P ++ Q)).Nodup →
    NodesI (w.setCell ⟨lastX hx i P, i, none⟩ (ptrV (some m.nb))) m Q (i + 1) P
  | [], hx, h, hd => Nodes.keep h fun k hk => Below.heap_setCell w _ _ k (by show k ≠ hx; intro e; subst e; exact (List.nodup_cons.1 hd).1 hk)
  | n :: P, hx, h, hd => by
    have hd2 : (hx :: n.nb :: n.xb :: blksOf (P ++ Q)).Nodup := hd
    have n1 := List.nodup_cons.1 hd2
    have n2 := List.nodup_cons.1 n1.2
    have n3 := List.nodup_cons.1 n2.2
    have hxn : (hx :: blksOf (P ++ Q)).Nodup := List.nodup_cons.2 ⟨fun hk => n1.1 (List.mem_cons_of_mem _ (List.mem_cons_of_mem _ hk)), n3.2⟩
    have hmem : ∀ q ∈ P, q.xb ∈ blksOf (P ++ Q) := fun q hq => (mem_blks (List.mem_append_left _ hq)).2
    have hwr : lastX hx i (n :: P) = hx ∨ lastX hx i (n :: P) = n.xb ∨ ∃ q ∈ P, lastX hx i (n :: P) = q.xb := by
      rcases lastX_mem (i := i) (n :: P) hx with h1 | ⟨q, hq, h1⟩
      · exact .inl h1
      · rcases List.mem_cons.1 hq with rfl | hq
        · exact .inr (.inl h1)
        · exact .inr (.inr ⟨q, hq, h1⟩)
    have hnb : n.nb ≠ lastX hx i (n :: P) := by
      intro e
      rcases hwr with h1 | h1 | ⟨q, hq, h1⟩
      · rw [h1] at e; exact n1.1 (e ▸ List.mem_cons_self ..)
      · rw [h1] at e; exact n2.1 (e ▸ List.mem_cons_self ..)
      · rw [h1] at e; exact n2.1 (List.mem_cons_of_mem _ (e ▸ hmem q hq))
    by_cases h1 : i < n.h
    · have hl : lastX hx i (n :: P) = lastX n.xb i P := by show lastX (if i < n.h then _ else _) i P = _; rw [if_pos h1]
      have ih := NodesI.step hm (P := P) n.xb h.2 n2.2
      rw [hl] at hnb ⊢
      refine ⟨⟨h.1.1.far (p := ⟨lastX n.xb i P, i, none⟩) hnb _, ?_, h.1.2.2⟩, ih⟩
      by_cases h2 : nxtB i P = none
      · rw [lastX_none _ h2, ← rowI_set m Q n.h P i h2 hm h1]
        exact h.1.2.1.set_ i _
      · obtain ⟨q, hq, h3⟩ := lastX_in (i := i) n.xb h2
        rw [h3, rowI_same m Q n.h P i (.inl h2)]
        exact h.1.2.1.far (p := ⟨q.xb, i, none⟩) (by show n.xb ≠ q.xb; intro e; exact n3.1 (e ▸ hmem q hq)) _
    · have hl : lastX hx i (n :: P) = lastX hx i P := by show lastX (if i < n.h then _ else _) i P = _; rw [if_neg h1]
      have ih := NodesI.step hm (P := P) hx h.2 hxn
      rw [hl] at hnb ⊢
      refine ⟨⟨h.1.1.far (p := ⟨lastX hx i P, i, none⟩) hnb _, ?_, h.1.2.2⟩, ih⟩
      rw [rowI_same m Q n.h P i (.inr (by omega))]
      refine h.1.2.1.far (p := ⟨lastX hx i P, i, none⟩) ?_ _
      show n.xb ≠ lastX hx i P
      intro e
      rcases lastX_mem (i := i) P hx with h4 | ⟨q, hq, h4⟩
      · rw [h4] at e; exact n1.1 (e ▸ List.mem_cons_of_mem _ (List.mem_cons_self ..))
      · rw [h4] at e; exact n3.1 (e ▸ hmem q hq)
/-- the head's row, one storey more -/
theorem head_step {w : World} {m : Nd} {Q : List Nd} {i hx : Nat} {P : List Nd} (hm : i < m.h) (h12 : i < 12) (hr : Blk w hx 77 (rowI m Q 12 P i)) (hd : (hx :: blksOf (P ++ Q)).Nodup) :
    Blk (w.setCell ⟨lastX hx i P, i, none⟩ (ptrV (some m.nb))) hx 77 (rowI m Q 12 P (i + 1)) := by
  by_cases h2 : nxtB i P = none
  · rw [lastX_none _ h2, ← rowI_set m Q 12 P i h2 hm h12]
    exact hr.set_ i _
  · obtain ⟨q, hq, h3⟩ := lastX_in (i := i) hx h2
    rw [h3, rowI_same m Q 12 P i (.inl h2)]
    exact hr.far (p := ⟨q.xb, i, none⟩) (by show hx ≠ q.xb; intro e; exact (List.nodup_cons.1 hd).1 (e ▸ (mem_blks (List.mem_append_left _ hq)).2)) _
end Go.Proofs.Ytodnojpolkdlmaa
