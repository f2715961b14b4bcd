/-
  A table in memory, its blocks named.
-/
import Derived.Test.YtodnojpolkdlmaaTmJ
namespace Go.Proofs.Ytodnojpolkdlmaa
set_option linter.unusedSimpArgs false
set_option linter.unusedVariables false
open Go.RowKit Go.IntWalk

/-- the table at g: F are its own blocks, H the block of its heights -/
def Tab (w : World) (g : Nat) (how : Int) (hl : List UInt8) (S : TS) (F H : List Nat) : Prop :=
  ∃ (hb : Nat) (hA : Option Addr) (hc : Nat) (tv hu hs hk hval : Value) (N : List Nd),
    N.map (·.e) = S.l ∧ F = (g :: hb :: blksOf N) ++ tv.ownBlock.toList ∧ F.Nodup ∧
    Tbl w g hb how (.slice hA hl.length hc) hu hs hk hval tv (.int .i64 S.size) (.int .u64 S.first) (.int .u64 S.last) N ∧
    Own w 0 71 3 tv S.t.length (tbsC S.t) ∧
    Bs w w.heap.size hA hl ∧ (∀ a, hA = some a → a.block ∈ H) ∧ ∀ k ∈ H, k ∉ F
theorem Tbl.keep {w w' : World} {g hb : Nat} {how : Int} {hv hu hs hk hval tv size first last : Value} {N : List Nd} (h : Tbl w g hb how hv hu hs hk hval tv size first last N)
    (hk' : ∀ k ∈ g :: hb :: blksOf N, w'.heap[k]? = w.heap[k]?) : Tbl w' g hb how hv hu hs hk hval tv size first last N := by
  refine ⟨?_, ?_, h.nodes.keep fun k hk => hk' k (by simp [hk])⟩
  · exact (hk' g (by simp)).trans h.blk
  · exact (hk' hb (by simp)).trans h.row
theorem Tab.keep {w w' : World} {g : Nat} {how : Int} {hl : List UInt8} {S : TS} {F H : List Nat} (h : Tab w g how hl S F H) (hz : w.heap.size ≤ w'.heap.size) (hF : ∀ k ∈ F, w'.heap[k]? = w.heap[k]?) (hH : ∀ k ∈ H, w'.heap[k]? = w.heap[k]?) : Tab w' g how hl S F H := by
  obtain ⟨hb, hA, hc, tv, hu, hs, hk, hval, N, h1, h2, h3, h4, h5, h6, h7, h8⟩ := h
  refine ⟨hb, hA, hc, tv, hu, hs, hk, hval, N, h1, h2, h3, h4.keep fun k hk => hF k (by rw [h2]; exact List.mem_append_left _ hk), h5.of_block fun k hk => hF k (by rw [h2]; exact List.mem_append_right _ (by simp [hk])), ?_, h7, h8⟩
  rcases h6 with h6 | ⟨b, off, hA', hlt, hc'⟩
  · exact .inl h6
  · exact .inr ⟨b, off, hA', by omega, fun j u hu => (World.cell?_of_block (w := w) (hH b (h7 _ hA'))).trans (hc' j u hu)⟩
theorem Tab.lt {w : World} {g : Nat} {how : Int} {hl : List UInt8} {S : TS} {F H : List Nat} (h : Tab w g how hl S F H) : ∀ k ∈ F, k < w.heap.size := by
  obtain ⟨hb, hA, hc, tv, hu, hs, hk, hval, N, h1, h2, h3, h4, h5, h6, h7, h8⟩ := h
  intro k hk
  rw [h2] at hk
  rcases List.mem_append.1 hk with hk | hk
  · rcases List.mem_cons.1 hk with rfl | hk
    · exact h4.blk.lt
    rcases List.mem_cons.1 hk with rfl | hk
    · exact h4.row.lt
    · obtain ⟨n, hn, hk⟩ := List.mem_flatMap.1 hk
      have := h4.nodes.lt n hn
      simp at hk
      rcases hk with rfl | rfl
      · exact this.1
      · exact this.2
  · exact (h5.lt k (by simpa using hk)).2
end Go.Proofs.Ytodnojpolkdlmaa
