/-
  A table and the records that were put into it, side by side.
-/
import Derived.Test.YtodnojpolkdlmaaSeeA
import Derived.Test.YtodnojpolkdlmaaGtB
import Derived.Test.YtodnojpolkdlmaaLawS
namespace Go.Proofs.Ytodnojpolkdlmaa
set_option linter.unusedSimpArgs false
set_option linter.unusedVariables false
open Go.RowKit Go.IntWalk

theorem addS_refused {how : Int} {S : TS} {seq : Int} {r : Rc} (h : (addS how S seq r).2 ≠ 0) : (addS how S seq r).1 = S := by
  unfold addS at h ⊢
  split
  · rfl
  rename_i h1
  rw [if_neg h1] at h
  split
  · rfl
  rename_i h2
  rw [if_neg h2] at h
  split
  · rfl
  rename_i h3
  rw [if_neg h3] at h
  split
  · rename_i h4
    rw [if_pos h4] at h
    dsimp only at h ⊢
    split
    · rfl
    · rename_i h5
      rw [if_neg h5] at h
      exact absurd rfl h
  · rename_i h4
    rw [if_neg h4] at h
    dsimp only at h ⊢
    split
    · rfl
    · rename_i h5
      rw [if_neg h5] at h
      exact absurd rfl h
/-- the table beside a slice that grows -/
theorem One.move {B : Nat} {w w' : World} {g : Nat} {how : Int} {hl : List UInt8} {S : TS} {v v' : Value} (h : One B w g how hl S v.ownBlock.toList) (hg : w.grownBy w' v.ownBlock) (hv : v'.ownBlock = v.ownBlock ∨ v'.ownBlock = some w.heap.size) (hlt : ∀ k, v'.ownBlock = some k → k < w'.heap.size) : One B w' g how hl S v'.ownBlock.toList := by
  obtain ⟨F, H, h1, h2, h3, h4⟩ := h
  have hl1 := h1.lt
  have hz := hg.size
  have hne : ∀ k, k ∉ v.ownBlock.toList → some k ≠ v.ownBlock := fun k hk e => hk (by rw [← e]; simp)
  refine ⟨F, H, h1.keep hz (fun k hk => hg.block k (hl1 k hk) (hne k (h2 k hk).2)) (fun k hk => hg.block k (h3 k hk).1 (hne k (h3 k hk).2)), fun k hk => ⟨(h2 k hk).1, ?_⟩, fun k hk => ⟨Nat.lt_of_lt_of_le (h3 k hk).1 hz, ?_⟩, fun k hk => hlt k (by simpa using hk)⟩
  · rcases hv with e | e
    · rw [e]; exact (h2 k hk).2
    · rw [e]; have := hl1 k hk; simp; omega
  · rcases hv with e | e
    · rw [e]; exact (h3 k hk).2
    · rw [e]; have := (h3 k hk).1; simp; omega
theorem One.start {B : Nat} {w : World} {g : Nat} {how : Int} {hl : List UInt8} {S : TS} (h : One B w g how hl S []) (cs : Array Value) (t : TypeId) : One B (w.alloc (.cells cs t)) g how hl S (Value.slice (some ⟨w.heap.size, 0, none⟩) 0 0).ownBlock.toList := by
  obtain ⟨F, H, h1, h2, h3, h4⟩ := h
  have hl1 := h1.lt
  have e : (Value.slice (some ⟨w.heap.size, 0, none⟩) 0 0).ownBlock.toList = [w.heap.size] := rfl
  rw [e]
  refine ⟨F, H, h1.below ((Below.refl _ _).alloc (Nat.le_refl _) _), fun k hk => ⟨(h2 k hk).1, ?_⟩, fun k hk => ⟨by have := (h3 k hk).1; simp; omega, ?_⟩, fun k hk => ?_⟩
  · have := hl1 k hk; simp; omega
  · have := (h3 k hk).1; simp; omega
  · simp at hk; simp; omega
/-- what holds of a table and of the records that were put in -/
structure Kept (how n : Int) (S : TS) (D : List Rc) : Prop where
  ok : TOk how S
  low : Low n S
  ag : ∀ key, AgreeM (mapM how key D) (getS how S key 72057594037927935)
theorem Kept.empty (how : Int) : Kept how 1 emptyS [] := ⟨TOk.empty how, ⟨fun e he => absurd he List.not_mem_nil, fun e he => absurd he List.not_mem_nil⟩, fun key => agree_empty how _ key⟩
theorem Kept.yes {how n : Int} {S : TS} {D : List Rc} {r : Rc} (h : Kept how n S D) (hn : n ≤ 72057594037927935) (h0 : (addS how S n r).2 = 0) : Kept how (n + 1) (addS how S n r).1 (D ++ [r]) :=
  ⟨h.ok.add n r, h.low.add (Int.le_refl _), fun key => by rw [mapM_snoc]; exact agree_step h.low (Int.le_refl _) hn h0 (h.ag key)⟩
theorem Kept.no {how n : Int} {S : TS} {D : List Rc} {r : Rc} (h : Kept how n S D) (h0 : (addS how S n r).2 ≠ 0) : Kept how (n + 1) (addS how S n r).1 D := by
  rw [addS_refused h0]
  exact ⟨h.ok, h.low.mono (by omega), h.ag⟩
theorem mapM_step (how : Int) (key : ByteArray) (D : List Rc) (j : Nat) (h : j < D.length) : mapM how key (D.take (j + 1)) = stepM how key (mapM how key (D.take j)) D[j] := by
  rw [take_snoc D j h, mapM_snoc]
/-- strings in a row -/
def strC (l : List ByteArray) : List Value := l.map Value.string
theorem str_at {w : World} {B : Nat} {A : Option Addr} {l : List ByteArray} (h : Rd w B A (strC l)) {k : Nat} (hk : k < l.length) : ∃ b off, A = some ⟨b, off, none⟩ ∧ b < B ∧ w.cell? ⟨b, off + k, none⟩ = some (.string (l[k]'hk)) := by
  rcases h with h | ⟨b, off, rfl, hb, hc⟩
  · have : l = [] := by simpa [strC] using h
    subst this; simp at hk
  · exact ⟨b, off, rfl, hb, hc k _ (by simp [strC, hk])⟩
section
open Go.ChangeShapes Go.WideShapes Go.ChangeAt Go.Deep
variable {H : Type} {enc : TypeId × Value → H}
set_option maxRecDepth 100000 in
theorem open_strs {W : World} {r : Reach} {b0 : Nat} {v : Value} {d : DataW H} {p : List MemPlace} (hv : Value.okWide Try.prog W r b0 37 v)
    (h : DataW.Trod enc Try.prog W 0 (fun _ => true) true 37 v d p) (hw : wt 37 d) :
    ∃ (A : Option Addr) (cap : Nat) (l : List ByteArray), v = .slice A l.length cap ∧ l.length ≤ cap ∧ cap * 16 ≤ 140737488351232 ∧ Rd W W.heap.size A (strC l) := by
  obtain ⟨A, n, cap, V, rfl, hn, _, hcap, hr, hV⟩ := open_rows (t := 37) 1 16 Try.underlying37 (by kernel_rfl) (by omega) (by kernel_rfl) hv h hw
  have : Inhabited ByteArray := ⟨⟨#[]⟩⟩
  obtain ⟨f, hf⟩ := choose_lt (α := ByteArray) (n := n) (p := fun i e => V i = [Value.string e]) (fun i hi => by
    obtain ⟨h1, fuel, x, h2⟩ := hV i hi
    obtain ⟨s, h0, _⟩ := DataW.trod_string Try.underlying9 h2
    exact ⟨s, h0⟩)
  refine ⟨A, cap, (List.range n).map f, by simp, by simpa using hn, hcap, ?_⟩
  have e : (List.range n).flatMap V = strC ((List.range n).map f) := by
    unfold strC
    rw [List.map_map, List.flatMap_def]
    have : (List.range n).map V = (List.range n).map (fun i => [Value.string (f i)]) := List.map_congr_left fun i hi => hf i (by simpa using hi)
    rw [this, ← List.flatMap_def]
    induction List.range n with
    | nil => rfl
    | cons a t ih => rw [List.flatMap_cons, ih]; rfl
  rw [← e]; exact hr
end
end Go.Proofs.Ytodnojpolkdlmaa
