/-
  What grows, what is kept: words used by all walks.
-/
import Derived.Test.YtodnojpolkdlmaaCodE
namespace Go.Proofs.Ytodnojpolkdlmaa
open Go.RowKit Go.IntWalk

/-- byte k of a slice that reads as l -/
theorem byte_of {w : World} {B b off : Nat} {l : List UInt8} (h : Bs w B (some ⟨b, off, none⟩) l) {k : Nat} (hk : k < l.length) : w.cell? ⟨b, off + k, none⟩ = some (.int .u8 ((l[k]'hk).toNat : Int)) := by
  rcases h with h | ⟨b', off', hA, _, hc⟩
  · have : l = [] := by simpa using h
    subst this; simp at hk
  · injection hA with hA
    injection hA with e1 e2
    subst e1 e2
    exact hc k _ (by simp [hk, byteV])
theorem Rd.addr {w : World} {B : Nat} {A : Option Addr} {l : List UInt8} (h : Bs w B A l) {k : Nat} (hk : k < l.length) : ∃ b off, A = some ⟨b, off, none⟩ := by
  rcases h with h | ⟨b', off', hA, _⟩
  · have : l = [] := by simpa using h
    subst this; simp at hk
  · exact ⟨_, _, hA⟩
theorem grow_then {w w1 w2 : World} {row row' : Option Nat} (h : w.grownBy w1 row) (k : w1.grownBy w2 row') (hr : row' = row ∨ ∀ j, row' = some j → w.heap.size ≤ j) : w.grownBy w2 row :=
  ⟨k.os.trans h.os, k.tape.trans h.tape, k.output.trans h.output, Nat.le_trans h.size k.size, fun j hj hne => (k.block j (Nat.lt_of_lt_of_le hj h.size) (by
    rcases hr with e | hr
    · rw [e]; exact hne
    · intro e; have := hr j e.symm; omega)).trans (h.block j hj hne)⟩
theorem grow_below {w w' : World} (h : Below w.heap.size w w') (row : Option Nat) : w.grownBy w' row := ⟨h.os, h.tape, h.output, h.size, fun k hk _ => h.block k hk⟩
/-- where an appended slice lies: where it lay, or in a new block -/
def From (w : World) (v v' : Value) : Prop := v'.ownBlock = v.ownBlock ∨ ∀ j, v'.ownBlock = some j → w.heap.size ≤ j
theorem From.refl (w : World) (v : Value) : From w v v := .inl rfl
theorem From.step {w w1 : World} {v v1 v2 : Value} (h : From w v v1) (hs : w.heap.size ≤ w1.heap.size) (k : v2.ownBlock = v1.ownBlock ∨ v2.ownBlock = some w1.heap.size) : From w v v2 := by
  rcases k with k | k
  · rcases h with h | h
    · exact .inl (k.trans h)
    · exact .inr fun j hj => h j (k ▸ hj)
  · exact .inr fun j hj => by rw [k] at hj; injection hj with hj; omega
/-- what a step that grows the row v leaves: an owned slice that is not v -/
theorem From.grow {w w1 w2 : World} {v v1 : Value} (hf : From w v v1) (h : w.grownBy w1 v.ownBlock) (k : w1.grownBy w2 v1.ownBlock) : w.grownBy w2 v.ownBlock :=
  grow_then h k (hf.elim .inl fun h => .inr h)
theorem Rd.grown {w w' : World} {B : Nat} {A : Option Addr} {cs : List Value} {row : Option Nat} (h : Rd w B A cs) (hg : w.grownBy w' row) (hB : B ≤ w.heap.size) (hne : ∀ a, A = some a → some a.block ≠ row) : Rd w' B A cs := by
  rcases h with h | ⟨b, off, rfl, hb, hc⟩
  · exact .inl h
  · exact .inr ⟨b, off, rfl, hb, fun j u hu => (hg.cell_far ⟨b, off + j, none⟩ (by show b < w.heap.size; omega) (hne ⟨b, off, none⟩ rfl)).trans (hc j u hu)⟩
theorem Rd.cutIf {w : World} {B b off cap n : Nat} {l : List UInt8} (h : Bs w B (some ⟨b, off, none⟩) l) (hc : l.length ≤ cap) (hn : n ≤ l.length) :
    Bs w B (if cap = n then some ⟨b, off, none⟩ else some ⟨b, off + n, none⟩) (l.drop n) := by
  split
  · have : l.drop n = [] := List.drop_eq_nil_of_le (by omega)
    rw [this]; exact Rd.nil
  · have := Rd.cut h n; rwa [← List.map_drop] at this
def nb (a b : Option Nat) : Prop := a = none ∨ a ≠ b
def intV (n : Nat) : Value := .int .i64 n
theorem info_int : (Try.prog.info? 3).map (fun i => (i.zero, i.size, i.bytes)) = some (some (.int .i64 0), 1, 8) := by kernel_rfl
theorem nb_symm {a b : Option Nat} (h : nb a b) : b = none ∨ b ≠ a := by
  rcases h with h | h
  · rcases b with _ | b
    · exact .inl rfl
    · rw [h]; exact .inr (by simp)
  · exact .inr (Ne.symm h)
theorem Rd.drew {w : World} {B : Nat} {A : Option Addr} {cs : List Value} (h : Rd w B A cs) : Rd w.drew B A cs := h
theorem Own.far {w : World} {base : Nat} {e : TypeId} {size : Nat} {v : Value} {n : Nat} {cs : List Value} (h : Own w base e size v n cs) {p : Addr} (hp : v.ownBlock ≠ some p.block) (u : Value) : Own (w.setCell p u) base e size v n cs :=
  h.of_block fun k hk => Below.heap_setCell w p u k (fun e => hp (by rw [hk, e]))
theorem Rd.far {w : World} {B : Nat} {A : Option Addr} {cs : List Value} (h : Rd w B A cs) {p : Addr} (hp : ∀ a, A = some a → a.block ≠ p.block) (u : Value) : Rd (w.setCell p u) B A cs := by
  rcases h with h | ⟨b, off, hA, hlt, hc⟩
  · exact .inl h
  · exact .inr ⟨b, off, hA, hlt, fun j x hx => (World.cell?_of_block (w := w) (Below.heap_setCell w p u b (hp _ hA))).trans (hc j x hx)⟩
end Go.Proofs.Ytodnojpolkdlmaa
