/-
  Two tables side by side.
-/
import Derived.Test.YtodnojpolkdlmaaTmM
import Derived.Test.YtodnojpolkdlmaaGtA
namespace Go.Proofs.Ytodnojpolkdlmaa
set_option linter.unusedSimpArgs false
set_option linter.unusedVariables false
open Go.RowKit Go.IntWalk

/-- what a change of a table leaves: S' behind, in blocks of its own or new ones -/
def AddP (w : World) (g : Nat) (how : Int) (hl : List UInt8) (S' : TS) (F H : List Nat) (w' : World) : Prop :=
  ∃ F', Tab w' g how hl S' F' H ∧ Chg w w' (fun k => k ∈ F) ∧ ∀ k ∈ F', k ∈ F ∨ w.heap.size ≤ k
/-- a table whose blocks lie from B on -/
def One (B : Nat) (w : World) (g : Nat) (how : Int) (hl : List UInt8) (S : TS) (X : List Nat) : Prop :=
  ∃ F H, Tab w g how hl S F H ∧ (∀ k ∈ F, B ≤ k ∧ k ∉ X) ∧ (∀ k ∈ H, k < w.heap.size ∧ k ∉ X) ∧ ∀ k ∈ X, k < w.heap.size
theorem One.add {B : Nat} {w w' : World} {g : Nat} {how : Int} {hl : List UInt8} {S : TS} {X : List Nat} (h : One B w g how hl S X) {S' : TS} {F H : List Nat} (ht : Tab w g how hl S F H) (hF : ∀ k ∈ F, B ≤ k ∧ k ∉ X) (hH : ∀ k ∈ H, k < w.heap.size ∧ k ∉ X) (hX : ∀ k ∈ X, k < w.heap.size) (hB : B ≤ w.heap.size)
    (hp : AddP w g how hl S' F H w') : One B w' g how hl S' X ∧ Below B w w' ∧ ∀ k ∈ X, w'.heap[k]? = w.heap[k]? := by
  obtain ⟨F', h1, h2, h3⟩ := hp
  have hz := h2.size
  refine ⟨⟨F', H, h1, fun k hk => ?_, fun k hk => ⟨Nat.lt_of_lt_of_le (hH k hk).1 hz, (hH k hk).2⟩, fun k hk => Nat.lt_of_lt_of_le (hX k hk) hz⟩, h2.toBelow hB fun k hk => (hF k hk).1, fun k hk => h2.block k (hX k hk) fun hf => (hF k hf).2 hk⟩
  rcases h3 k hk with h4 | h4
  · exact hF k h4
  · exact ⟨by omega, fun hx => by have := hX k hx; omega⟩
theorem One.below {B : Nat} {w w' : World} {g : Nat} {how : Int} {hl : List UInt8} {S : TS} {X : List Nat} (h : One B w g how hl S X) (hb : Below w.heap.size w w') : One B w' g how hl S X := by
  obtain ⟨F, H, h1, h2, h3, h4⟩ := h
  exact ⟨F, H, h1.below hb, h2, fun k hk => ⟨Nat.lt_of_lt_of_le (h3 k hk).1 hb.size, (h3 k hk).2⟩, fun k hk => Nat.lt_of_lt_of_le (h4 k hk) hb.size⟩
/-- two tables -/
def Two (B : Nat) (w : World) (ga gb : Nat) (how : Int) (la lb : List UInt8) (S T : TS) : Prop :=
  ∃ Fa Ha Fb Hb, Tab w ga how la S Fa Ha ∧ Tab w gb how lb T Fb Hb ∧ (∀ k ∈ Fa, B ≤ k ∧ k ∉ Fb ∧ k ∉ Hb) ∧ (∀ k ∈ Fb, B ≤ k ∧ k ∉ Fa ∧ k ∉ Ha) ∧ (∀ k ∈ Ha, k < w.heap.size) ∧ ∀ k ∈ Hb, k < w.heap.size
theorem Two.swap {B : Nat} {w : World} {ga gb : Nat} {how : Int} {la lb : List UInt8} {S T : TS} (h : Two B w ga gb how la lb S T) : Two B w gb ga how lb la T S := by
  obtain ⟨Fa, Ha, Fb, Hb, h1, h2, h3, h4, h5, h6⟩ := h
  exact ⟨Fb, Hb, Fa, Ha, h2, h1, h4, h3, h6, h5⟩
theorem Two.addL {B : Nat} {w w' : World} {ga gb : Nat} {how : Int} {la lb : List UInt8} {S T : TS} {Fa Ha Fb Hb : List Nat} (h2 : Tab w gb how lb T Fb Hb) (h3 : ∀ k ∈ Fa, B ≤ k ∧ k ∉ Fb ∧ k ∉ Hb) (h4 : ∀ k ∈ Fb, B ≤ k ∧ k ∉ Fa ∧ k ∉ Ha) (h5 : ∀ k ∈ Ha, k < w.heap.size) (h6 : ∀ k ∈ Hb, k < w.heap.size) (hB : B ≤ w.heap.size)
    {S' : TS} (hp : AddP w ga how la S' Fa Ha w') : Two B w' ga gb how la lb S' T ∧ Below B w w' := by
  obtain ⟨F', k1, k2, k3⟩ := hp
  have hz := k2.size
  have hlt := h2.lt
  refine ⟨⟨F', Ha, Fb, Hb, k1, h2.keep hz (fun k hk => k2.block k (hlt k hk) (h4 k hk).2.1) (fun k hk => k2.block k (h6 k hk) fun hf => (h3 k hf).2.2 hk), fun k hk => ?_, fun k hk => ⟨(h4 k hk).1, fun hf => ?_, (h4 k hk).2.2⟩, fun k hk => Nat.lt_of_lt_of_le (h5 k hk) hz, fun k hk => Nat.lt_of_lt_of_le (h6 k hk) hz⟩, k2.toBelow hB fun k hk => (h3 k hk).1⟩
  · rcases k3 k hk with k4 | k4
    · exact h3 k k4
    · exact ⟨by omega, fun hf => by have := hlt k hf; omega, fun hf => by have := h6 k hf; omega⟩
  · rcases k3 k hf with k4 | k4
    · exact (h4 k hk).2.1 k4
    · have := hlt k hk; omega
theorem Two.below {B : Nat} {w w' : World} {ga gb : Nat} {how : Int} {la lb : List UInt8} {S T : TS} (h : Two B w ga gb how la lb S T) (hb : Below w.heap.size w w') : Two B w' ga gb how la lb S T := by
  obtain ⟨Fa, Ha, Fb, Hb, h1, h2, h3, h4, h5, h6⟩ := h
  exact ⟨Fa, Ha, Fb, Hb, h1.below hb, h2.below hb, h3, h4, fun k hk => Nat.lt_of_lt_of_le (h5 k hk) hb.size, fun k hk => Nat.lt_of_lt_of_le (h6 k hk) hb.size⟩
theorem Two.a {B : Nat} {w : World} {ga gb : Nat} {how : Int} {la lb : List UInt8} {S T : TS} (h : Two B w ga gb how la lb S T) : ∃ F H, Tab w ga how la S F H := by
  obtain ⟨Fa, Ha, Fb, Hb, h1, _⟩ := h
  exact ⟨Fa, Ha, h1⟩
theorem Two.b {B : Nat} {w : World} {ga gb : Nat} {how : Int} {la lb : List UInt8} {S T : TS} (h : Two B w ga gb how la lb S T) : ∃ F H, Tab w gb how lb T F H := h.swap.a
end Go.Proofs.Ytodnojpolkdlmaa
