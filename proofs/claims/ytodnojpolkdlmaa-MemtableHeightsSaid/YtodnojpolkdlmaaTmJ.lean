/-
  A table as two lists: what Add makes of it.
-/
import Derived.Test.YtodnojpolkdlmaaTmI
namespace Go.Proofs.Ytodnojpolkdlmaa
set_option linter.unusedSimpArgs false
set_option linter.unusedVariables false
open Go.RowKit Go.IntWalk

/-- how many entries are ahead of a key -/
def posE (how : Int) : List E → K → Nat
  | [], _ => 0
  | y :: l, x => if ordK how y.k x < 0 then posE how l x + 1 else 0
def thereE (how : Int) (l : List E) (x : K) : Bool := match l[posE how l x]? with
  | none => false
  | some y => ordK how y.k x == 0
theorem posE_le (how : Int) (l : List E) (x : K) : posE how l x ≤ l.length := by
  induction l with
  | nil => exact Nat.le_refl _
  | cons y l ih => unfold posE; split <;> simp <;> omega
theorem posE_take (how : Int) (x : K) : ∀ (l : List E), ∀ y ∈ l.take (posE how l x), ordK how y.k x < 0
  | [], y, h => by simp at h
  | z :: l, y, h => by
    unfold posE at h
    split at h
    · rename_i hz
      rw [List.take_succ_cons] at h
      rcases List.mem_cons.1 h with rfl | h
      · exact hz
      · exact posE_take how x l y h
    · simp at h
theorem posE_drop (how : Int) (x : K) : ∀ (l : List E), SortE how l → ∀ y ∈ l.drop (posE how l x), 0 ≤ ordK how y.k x
  | [], _, y, h => by simp at h
  | z :: l, hs, y, h => by
    unfold posE at h
    split at h
    · rw [List.drop_succ_cons] at h
      exact posE_drop how x l (List.pairwise_cons.1 hs).2 y h
    · rename_i hz
      rw [List.drop_zero] at h
      rcases List.mem_cons.1 h with rfl | h
      · omega
      · have := (List.pairwise_cons.1 hs).1 y h
        rcases Int.lt_or_le (ordK how y.k x) 0 with h1 | h1
        · exact absurd ((ordK_trans how _ _ _ (by omega) (by omega)).2 (.inl this)) hz
        · exact h1
theorem posT_take (how : Int) (x : Tb) : ∀ (l : List Tb), ∀ y ∈ l.take (posT how l x), ordT how y x < 0
  | [], y, h => by simp at h
  | z :: l, y, h => by
    unfold posT at h
    split at h
    · rename_i hz
      rw [List.take_succ_cons] at h
      rcases List.mem_cons.1 h with rfl | h
      · exact hz
      · exact posT_take how x l y h
    · simp at h
theorem posT_drop (how : Int) (x : Tb) : ∀ (l : List Tb), SortT how l → ∀ y ∈ l.drop (posT how l x), 0 ≤ ordT how y x
  | [], _, y, h => by simp at h
  | z :: l, hs, y, h => by
    unfold posT at h
    split at h
    · rw [List.drop_succ_cons] at h
      exact posT_drop how x l (List.pairwise_cons.1 hs).2 y h
    · rename_i hz
      rw [List.drop_zero] at h
      rcases List.mem_cons.1 h with rfl | h
      · omega
      · have := (List.pairwise_cons.1 hs).1 y h
        rcases Int.lt_or_le (ordT how y x) 0 with h1 | h1
        · exact absurd ((ordT_trans how _ _ _ (by omega) (by omega)).2 (.inl this)) hz
        · exact h1
def insE (l : List E) (i : Nat) (x : E) : List E := l.take i ++ x :: l.drop i
theorem insE_len (l : List E) (i : Nat) (x : E) (hi : i ≤ l.length) : (insE l i x).length = l.length + 1 := by unfold insE; simp; omega
/-- a table -/
structure TS where
  l : List E
  t : List Tb
  size : Int
  first : Int
  last : Int
def TS.n (S : TS) : Nat := S.l.length + S.t.length
/-- behind an Add that is right: the size, the least and the greatest number -/
def TS.fin (S : TS) (seq : Int) (kl vl : Nat) : TS :=
  let f := if S.n = 1 then seq else S.first
  let z := if S.n = 1 then seq else S.last
  { S with size := IntKind.i64.wrap (S.size + (kl : Int) + (vl : Int) + 16), first := min f seq, last := max z seq }
def plainV (r : Rc) : ByteArray := if r.k = 0 then ⟨#[]⟩ else r.v
def addS (how : Int) (S : TS) (seq : Int) (r : Rc) : TS × Int :=
  if 72057594037927935 < seq then (S, 1)
  else if chkR r ≠ 0 then (S, chkR r)
  else if 8192 ≤ S.n then (S, 2)
  else if r.k = 2 then
    let x : Tb := ⟨r.key, r.v, seq⟩
    if thereT how S.t x then (S, 7) else ({ S with t := insL S.t (posT how S.t x) x }.fin seq r.key.size r.v.size, 0)
  else
    let x : E := ⟨⟨r.key, seq, r.k⟩, plainV r⟩
    if thereE how S.l x.k then (S, 7) else ({ S with l := insE S.l (posE how S.l x.k) x }.fin seq r.key.size (plainV r).size, 0)
theorem pair_ins {α : Type} {R : α → α → Prop} {A B : List α} {x : α} (h : (A ++ B).Pairwise R) (hA : ∀ y ∈ A, R y x) (hB : ∀ y ∈ B, R x y) : (A ++ x :: B).Pairwise R := by
  rw [List.pairwise_append] at h ⊢
  refine ⟨h.1, List.pairwise_cons.2 ⟨hB, h.2.1⟩, fun a ha b hb => ?_⟩
  rcases List.mem_cons.1 hb with rfl | hb
  · exact hA a ha
  · exact h.2.2 a ha b hb
theorem drop_head {α : Type} {l : List α} {i : Nat} {P : α → Prop} (hP : ∀ y, l[i]? = some y → P y) : ∀ y Q, l.drop i = y :: Q → P y := by
  intro y Q h
  apply hP
  have := congrArg (fun z => z[0]?) h
  simpa using this
theorem SortT.ins {how : Int} {l : List Tb} (h : SortT how l) {x : Tb} (hn : thereT how l x = false) : SortT how (insL l (posT how l x) x) := by
  unfold SortT insL
  refine pair_ins (by rw [List.take_append_drop]; exact h) (posT_take how x l) ?_
  have hd := posT_drop how x l h
  have hs : (l.drop (posT how l x)).Pairwise fun a b => ordT how a b < 0 := List.Pairwise.drop h
  have h0 : ∀ y Q, l.drop (posT how l x) = y :: Q → 0 < ordT how y x := by
    intro y Q hq
    have h1 := hd y (by rw [hq]; simp)
    have h2 : ordT how y x ≠ 0 := drop_head (P := fun y => ordT how y x ≠ 0) (fun y hy => by
      unfold thereT at hn; rw [hy] at hn; simpa using hn) y Q hq
    omega
  generalize l.drop (posT how l x) = D at *
  intro y hy
  rcases D with _ | ⟨z, D⟩
  · cases hy
  · have hz := h0 z D rfl
    have hzx : ordT how x z < 0 := by rw [ordT_anti how z x]; omega
    rcases List.mem_cons.1 hy with rfl | hy
    · exact hzx
    · exact (ordT_trans how x z y (by omega) (Int.le_of_lt ((List.pairwise_cons.1 hs).1 y hy))).2 (.inl hzx)
theorem SortE.ins {how : Int} {l : List E} (h : SortE how l) {x : E} (hn : thereE how l x.k = false) : SortE how (insE l (posE how l x.k) x) := by
  unfold SortE insE
  refine pair_ins (by rw [List.take_append_drop]; exact h) (posE_take how x.k l) ?_
  have hd := posE_drop how x.k l h
  have hs : (l.drop (posE how l x.k)).Pairwise fun a b => ordK how a.k b.k < 0 := List.Pairwise.drop h
  have h0 : ∀ y Q, l.drop (posE how l x.k) = y :: Q → 0 < ordK how y.k x.k := by
    intro y Q hq
    have h1 := hd y (by rw [hq]; simp)
    have h2 : ordK how y.k x.k ≠ 0 := drop_head (P := fun y => ordK how y.k x.k ≠ 0) (fun y hy => by
      unfold thereE at hn; rw [hy] at hn; simpa using hn) y Q hq
    omega
  generalize l.drop (posE how l x.k) = D at *
  intro y hy
  rcases D with _ | ⟨z, D⟩
  · cases hy
  · have hz := h0 z D rfl
    have hzx : ordK how x.k z.k < 0 := by rw [ordK_anti how z.k x.k]; omega
    rcases List.mem_cons.1 hy with rfl | hy
    · exact hzx
    · exact (ordK_trans how x.k z.k y.k (by omega) (Int.le_of_lt ((List.pairwise_cons.1 hs).1 y hy))).2 (.inl hzx)
end Go.Proofs.Ytodnojpolkdlmaa
