/-
  A skiplist in memory.
-/
import Derived.Test.YtodnojpolkdlmaaGro
import Derived.Test.YtodnojpolkdlmaaCodB
namespace Go.Proofs.Ytodnojpolkdlmaa
open Go.RowKit Go.IntWalk

structure E where
  k : K
  v : ByteArray
def entC (e : E) : List Value := [.string e.k.u, .int .u64 e.k.s, .int .i64 e.k.k, .string e.v]
/-- a node: its block, the block of its storeys, how many there are, its entry -/
structure Nd where
  nb : Nat
  xb : Nat
  h : Nat
  e : E
def ptrV : Option Nat → Value
  | none => .pointer none
  | some b => .pointer (some ⟨b, 0, none⟩)
/-- the next node on storey j -/
def nxtB (j : Nat) : List Nd → Option Nat
  | [] => none
  | n :: S => if j < n.h then some n.nb else nxtB j S
def rowN (S : List Nd) (h : Nat) : Array Value := ((List.range h).map fun j => ptrV (nxtB j S)).toArray
theorem rowN_at (S : List Nd) (h j : Nat) (hj : j < h) : (rowN S h)[j]? = some (ptrV (nxtB j S)) := by unfold rowN; simp [hj]
def nodeC (n : Nd) : Array Value := #[.string n.e.k.u, .int .u64 n.e.k.s, .int .i64 n.e.k.k, .string n.e.v, .slice (some ⟨n.xb, 0, none⟩) n.h n.h]
def Nodes (w : World) : List Nd → Prop
  | [] => True
  | n :: S => (Blk w n.nb 66 (nodeC n) ∧ Blk w n.xb 77 (rowN S n.h) ∧ 1 ≤ n.h ∧ n.h ≤ 12) ∧ Nodes w S
theorem Nodes.below {w w' : World} {B : Nat} (hb : Below B w w') : ∀ {S : List Nd}, Nodes w S → (∀ n ∈ S, n.nb < B ∧ n.xb < B) → Nodes w' S
  | [], _, _ => trivial
  | n :: _, h, hB => ⟨⟨h.1.1.below hb (hB n (List.mem_cons_self ..)).1, h.1.2.1.below hb (hB n (List.mem_cons_self ..)).2, h.1.2.2⟩, Nodes.below hb h.2 (fun m hm => hB m (List.mem_cons_of_mem _ hm))⟩
theorem Nodes.lt {w : World} : ∀ {S : List Nd}, Nodes w S → ∀ n ∈ S, n.nb < w.heap.size ∧ n.xb < w.heap.size
  | _ :: _, h, m, hm => by
    rcases List.mem_cons.1 hm with rfl | hm
    · exact ⟨h.1.1.lt, h.1.2.1.lt⟩
    · exact Nodes.lt h.2 m hm
theorem Nodes.tail {w : World} : ∀ {A : List Nd} {n : Nd} {S : List Nd}, Nodes w (A ++ n :: S) → Nodes w (n :: S)
  | [], _, _, h => h
  | _ :: A, _, _, h => Nodes.tail (A := A) h.2
theorem nxtB_none {j : Nat} : ∀ {A : List Nd}, nxtB j A = none → ∀ B, nxtB j (A ++ B) = nxtB j B
  | [], _, _ => rfl
  | n :: A, h, B => by
    unfold nxtB at h
    split at h
    · cases h
    · rename_i h1
      show (if j < n.h then _ else nxtB j (A ++ B)) = _
      rw [if_neg h1]; exact nxtB_none h B
/-- the next node, and what lies ahead of it -/
theorem nxtB_split {j : Nat} : ∀ {A : List Nd}, nxtB j A ≠ none → ∃ A1 n A2, A = A1 ++ n :: A2 ∧ nxtB j A1 = none ∧ j < n.h ∧ ∀ B, nxtB j (A ++ B) = some n.nb
  | [], h => absurd rfl h
  | n :: A, h => by
    by_cases h1 : j < n.h
    · exact ⟨[], n, A, rfl, rfl, h1, fun B => by show (if j < n.h then _ else _) = _; rw [if_pos h1]⟩
    · have h2 : nxtB j (n :: A) = nxtB j A := by show (if j < n.h then _ else _) = _; rw [if_neg h1]
      rw [h2] at h
      obtain ⟨A1, m, A2, rfl, h3, h4, h5⟩ := nxtB_split h
      refine ⟨n :: A1, m, A2, rfl, ?_, h4, fun B => ?_⟩
      · show (if j < n.h then _ else _) = _; rw [if_neg h1]; exact h3
      · show (if j < n.h then _ else nxtB j ((A1 ++ m :: A2) ++ B)) = _; rw [if_neg h1]; exact h5 B
/-- the last node on storey j, the head if there is none -/
def lastA (hd : Addr) (j : Nat) : List Nd → Addr
  | [] => hd
  | n :: P => lastA (if j < n.h then ⟨n.nb, 0, none⟩ else hd) j P
theorem lastA_none {j : Nat} : ∀ {A : List Nd} (hd : Addr), nxtB j A = none → lastA hd j A = hd
  | [], _, _ => rfl
  | n :: A, hd, h => by
    unfold nxtB at h
    split at h
    · cases h
    · rename_i h1
      show lastA (if j < n.h then _ else hd) j A = hd
      rw [if_neg h1]; exact lastA_none hd h
theorem lastA_append (hd : Addr) (j : Nat) : ∀ (A B : List Nd), lastA hd j (A ++ B) = lastA (lastA hd j A) j B
  | [], _ => rfl
  | n :: A, B => lastA_append (if j < n.h then ⟨n.nb, 0, none⟩ else hd) j A B
theorem lastA_snoc (hd : Addr) (j : Nat) (A : List Nd) (n : Nd) : lastA hd j (A ++ [n]) = if j < n.h then ⟨n.nb, 0, none⟩ else lastA hd j A := by
  rw [lastA_append]; rfl
/-- a table: its block g, the block hb of its head's storeys -/
structure Tbl (w : World) (g hb : Nat) (how : Int) (hv hu hs hk hval tv : Value) (size first last : Value) (S : List Nd) : Prop where
  blk : Blk w g 68 #[.int .i64 how, hv, hu, hs, hk, hval, .slice (some ⟨hb, 0, none⟩) 12 12, .int .i64 (S.length : Nat), tv, size, first, last]
  row : Blk w hb 77 (rowN S 12)
  nodes : Nodes w S
/-- a node (or the head) at an address, its storeys, what follows it -/
structure AtP (w : World) (ab ao xb h : Nat) (S : List Nd) : Prop where
  sl : w.cell? ⟨ab, ao + 4, none⟩ = some (.slice (some ⟨xb, 0, none⟩) h h)
  row : ∀ j, j < h → w.cell? ⟨xb, j, none⟩ = some (ptrV (nxtB j S))
  h12 : h ≤ 12
  lt : ab < w.heap.size ∧ xb < w.heap.size
theorem Tbl.head {w : World} {g hb : Nat} {how : Int} {hv hu hs hk hval tv size first last : Value} {S : List Nd} (h : Tbl w g hb how hv hu hs hk hval tv size first last S) : AtP w g 2 hb 12 S :=
  ⟨h.blk.cell 6, fun j hj => (h.row.cell j).trans (rowN_at S 12 j hj), Nat.le_refl _, h.blk.lt, h.row.lt⟩
theorem Nodes.at_ {w : World} {n : Nd} {S : List Nd} (h : Nodes w (n :: S)) : AtP w n.nb 0 n.xb n.h S :=
  ⟨h.1.1.cell 4, fun j hj => (h.1.2.1.cell j).trans (rowN_at S n.h j hj), h.1.2.2.2, h.1.1.lt, h.1.2.1.lt⟩
theorem AtP.below {w w' : World} {ab ao xb h : Nat} {S : List Nd} (hp : AtP w ab ao xb h S) {B : Nat} (hb : Below B w w') (h1 : ab < B) (h2 : xb < B) : AtP w' ab ao xb h S :=
  ⟨(hb.cell (p := ⟨ab, ao + 4, none⟩) h1).trans hp.sl, fun j hj => (hb.cell (p := ⟨xb, j, none⟩) h2).trans (hp.row j hj), hp.h12, Nat.lt_of_lt_of_le hp.lt.1 hb.size, Nat.lt_of_lt_of_le hp.lt.2 hb.size⟩
end Go.Proofs.Ytodnojpolkdlmaa
