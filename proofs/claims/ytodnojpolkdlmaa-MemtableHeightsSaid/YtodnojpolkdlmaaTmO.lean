/-
  What a change of a table's blocks makes of it: a tombstone more; its numbers.
-/
import Derived.Test.YtodnojpolkdlmaaTwo
namespace Go.Proofs.Ytodnojpolkdlmaa
set_option linter.unusedSimpArgs false
set_option linter.unusedVariables false
open Go.RowKit Go.IntWalk

/-- a table's parts -/
structure TabP (w : World) (g : Nat) (how : Int) (hl : List UInt8) (S : TS) (F H : List Nat) (hb : Nat) (hA : Option Addr) (hc : Nat) (tv hu hs hk hval : Value) (N : List Nd) : Prop where
  nl : N.map (·.e) = S.l
  fp : F = (g :: hb :: blksOf N) ++ tv.ownBlock.toList
  nd : F.Nodup
  tbl : Tbl w g hb how (.slice hA hl.length hc) hu hs hk hval tv (.int .i64 S.size) (.int .u64 S.first) (.int .u64 S.last) N
  own : Own w 0 71 3 tv S.t.length (tbsC S.t)
  bs : Bs w w.heap.size hA hl
  hh : ∀ a, hA = some a → a.block ∈ H
  dj : ∀ k ∈ H, k ∉ F
theorem Tab.parts {w : World} {g : Nat} {how : Int} {hl : List UInt8} {S : TS} {F H : List Nat} (h : Tab w g how hl S F H) : ∃ hb hA hc tv hu hs hk hval N, TabP w g how hl S F H hb hA hc tv hu hs hk hval N := by
  obtain ⟨hb, hA, hc, tv, hu, hs, hk, hval, N, h1, h2, h3, h4, h5, h6, h7, h8⟩ := h
  exact ⟨hb, hA, hc, tv, hu, hs, hk, hval, N, h1, h2, h3, h4, h5, h6, h7, h8⟩
section
variable {w w' : World} {g : Nat} {how : Int} {hl : List UInt8} {S : TS} {F H : List Nat} {hb : Nat} {hA : Option Addr} {hc : Nat} {tv hu hs hk hval : Value} {N : List Nd}
theorem TabP.tab (h : TabP w g how hl S F H hb hA hc tv hu hs hk hval N) : Tab w g how hl S F H :=
  ⟨hb, hA, hc, tv, hu, hs, hk, hval, N, h.nl, h.fp, h.nd, h.tbl, h.own, h.bs, h.hh, h.dj⟩
theorem TabP.lt (h : TabP w g how hl S F H hb hA hc tv hu hs hk hval N) : ∀ k ∈ F, k < w.heap.size := h.tab.lt
theorem TabP.gF (h : TabP w g how hl S F H hb hA hc tv hu hs hk hval N) : g ∈ F := by rw [h.fp]; simp
theorem TabP.tvF (h : TabP w g how hl S F H hb hA hc tv hu hs hk hval N) : ∀ k, tv.ownBlock = some k → k ∈ F ∧ k ≠ g ∧ k ≠ hb ∧ k ∉ blksOf N := by
  intro k hk
  have h1 := h.fp
  have h2 := h.nd
  rw [h1, hk, List.nodup_append] at h2
  have h3 := h2.2.2
  refine ⟨by rw [h1, hk]; simp, ?_, ?_, ?_⟩
  · intro e; exact h3 g (by simp) k (by simp) e.symm
  · intro e; exact h3 hb (by simp) k (by simp) e.symm
  · intro e; exact h3 k (by simp [e]) k (by simp) rfl
theorem TabP.keep (h : TabP w g how hl S F H hb hA hc tv hu hs hk hval N) (hz : w.heap.size ≤ w'.heap.size) (hF : ∀ k ∈ F, w'.heap[k]? = w.heap[k]?) (hH : ∀ k ∈ H, k < w.heap.size → w'.heap[k]? = w.heap[k]?) : TabP w' g how hl S F H hb hA hc tv hu hs hk hval N := by
  refine ⟨h.nl, h.fp, h.nd, h.tbl.keep fun k hk => hF k (by rw [h.fp]; exact List.mem_append_left _ hk), h.own.of_block fun k hk => hF k (h.tvF k hk).1, ?_, h.hh, h.dj⟩
  rcases h.bs with h6 | ⟨b, off, hA', hlt, hc'⟩
  · exact .inl h6
  · exact .inr ⟨b, off, hA', by omega, fun j u hu => (World.cell?_of_block (w := w) (hH b (h.hh _ hA') hlt)).trans (hc' j u hu)⟩
theorem TabP.below (h : TabP w g how hl S F H hb hA hc tv hu hs hk hval N) (hb' : Below w.heap.size w w') : TabP w' g how hl S F H hb hA hc tv hu hs hk hval N :=
  h.keep hb'.size (fun k hk => hb'.block k (h.lt k hk)) (fun k _ hk => hb'.block k hk)
/-- the bytes of the heights behind a change of the table's own blocks -/
theorem TabP.bsc (h : TabP w g how hl S F H hb hA hc tv hu hs hk hval N) (hc' : Chg w w' (fun k => k ∈ F)) : Bs w' w'.heap.size hA hl := by
  rcases h.bs with h6 | ⟨b, off, hA', hlt, hcc⟩
  · exact .inl h6
  · exact .inr ⟨b, off, hA', Nat.lt_of_lt_of_le hlt hc'.size, fun j u hu => (World.cell?_of_block (w := w) (hc'.block b hlt fun hf => h.dj b (h.hh _ hA') hf)).trans (hcc j u hu)⟩
/-- a tombstone more -/
theorem TabP.putT (h : TabP w g how hl S F H hb hA hc tv hu hs hk hval N) (hH : ∀ k ∈ H, k < w.heap.size) {w7 : World} {v' : Value} {t' : List Tb} (hc7 : Chg w w7 (fun k => tv.ownBlock = some k)) (ho : Own w7 0 71 3 v' t'.length (tbsC t'))
    (hv : v'.ownBlock = tv.ownBlock ∨ ∃ k, v'.ownBlock = some k ∧ w.heap.size ≤ k) :
    AddP w g how hl { S with t := t' } F H (w7.setCell ⟨g, 8, none⟩ v') := by
  have hlt := h.lt
  have hgl := hlt g h.gF
  have hcF : Chg w w7 (fun k => k ∈ F) := hc7.more fun k _ hk => (h.tvF k hk).1
  have hcF' : Chg w (w7.setCell ⟨g, 8, none⟩ v') (fun k => k ∈ F) := hcF.set_ g 8 v' (.inl h.gF)
  have hother : ∀ k ∈ g :: hb :: blksOf N, w7.heap[k]? = w.heap[k]? := fun k hk => by
    refine hc7.block k (hlt k (by rw [h.fp]; exact List.mem_append_left _ hk)) fun e => ?_
    have := h.tvF k e
    rcases List.mem_cons.1 hk with rfl | hk
    · exact this.2.1 rfl
    rcases List.mem_cons.1 hk with rfl | hk
    · exact this.2.2.1 rfl
    · exact this.2.2.2 hk
  have htbl := h.tbl.keep hother
  have hvg : v'.ownBlock ≠ some g := by
    rcases hv with e | ⟨k, e, hk⟩
    · rw [e]; intro e2; exact (h.tvF g e2).2.1 rfl
    · rw [e]; intro e2; injection e2 with e2; omega
  have hN : (g :: hb :: blksOf N).Nodup := by have := h.nd; rw [h.fp, List.nodup_append] at this; exact this.1
  have hgN := (List.nodup_cons.1 hN).1
  have hmem : ∀ k ∈ (g :: hb :: blksOf N) ++ v'.ownBlock.toList, k ∈ F ∨ w.heap.size ≤ k := by
    intro k hk
    rcases List.mem_append.1 hk with hk | hk
    · exact .inl (by rw [h.fp]; exact List.mem_append_left _ hk)
    · rcases hv with e | ⟨j, e, hj⟩
      · left; rw [h.fp]; exact List.mem_append_right _ (by rw [← e]; exact hk)
      · rw [e] at hk; simp at hk; right; omega
  refine ⟨(g :: hb :: blksOf N) ++ v'.ownBlock.toList, ⟨hb, hA, hc, v', hu, hs, hk, hval, N, h.nl, rfl, ?_, ⟨?_, ?_, ?_⟩, ho.far (p := ⟨g, 8, none⟩) hvg _, h.bsc hcF', h.hh, ?_⟩, hcF', hmem⟩
  · rcases hv with e | ⟨k, e, hk⟩
    · rw [e, ← h.fp]; exact h.nd
    · rw [e, List.nodup_append]
      refine ⟨hN, by simp, fun a ha b hb' => ?_⟩
      have := hlt a (by rw [h.fp]; exact List.mem_append_left _ ha)
      simp at hb'
      omega
  · exact htbl.blk.set_ 8 v'
  · exact htbl.row.far (p := ⟨g, 8, none⟩) (fun e => hgN (by have e : hb = g := e; rw [e]; exact List.mem_cons_self ..)) _
  · exact htbl.nodes.keep fun k hk => Below.heap_setCell w7 _ _ k fun e => hgN (List.mem_cons_of_mem _ (by have e : k = g := e; rw [← e]; exact hk))
  · intro k hk hf
    rcases hmem k hf with h1 | h1
    · exact h.dj k hk h1
    · have := hH k hk; omega
/-- its numbers -/
theorem TabP.nums (h : TabP w g how hl S F H hb hA hc tv hu hs hk hval N) (sz fi la : Int) {w7 : World} (hz : w.heap.size ≤ w7.heap.size) (ho : ∀ k, k ≠ g → k < w.heap.size → w7.heap[k]? = w.heap[k]?)
    (hg : Blk w7 g 68 #[.int .i64 how, .slice hA hl.length hc, hu, hs, hk, hval, .slice (some ⟨hb, 0, none⟩) 12 12, .int .i64 (N.length : Nat), tv, .int .i64 sz, .int .u64 fi, .int .u64 la]) :
    Tab w7 g how hl { S with size := sz, first := fi, last := la } F H := by
  have hlt := h.lt
  have hN : (g :: hb :: blksOf N).Nodup := by have := h.nd; rw [h.fp, List.nodup_append] at this; exact this.1
  have hgN := (List.nodup_cons.1 hN).1
  have hkeep : ∀ k ∈ hb :: blksOf N, w7.heap[k]? = w.heap[k]? := fun k hk => ho k (fun e => hgN (e ▸ hk)) (hlt k (by rw [h.fp]; exact List.mem_append_left _ (List.mem_cons_of_mem _ hk)))
  refine ⟨hb, hA, hc, tv, hu, hs, hk, hval, N, h.nl, h.fp, h.nd, ⟨hg, (hkeep hb (List.mem_cons_self ..)).trans h.tbl.row, h.tbl.nodes.keep fun k hk => hkeep k (List.mem_cons_of_mem _ hk)⟩, h.own.of_block fun k hk => ho k (h.tvF k hk).2.1 (hlt k (h.tvF k hk).1), ?_, h.hh, h.dj⟩
  rcases h.bs with h6 | ⟨b, off, hA', hlt', hcc⟩
  · exact .inl h6
  · exact .inr ⟨b, off, hA', by omega, fun j u hu => (World.cell?_of_block (w := w) (ho b (fun e => h.dj b (h.hh _ hA') (by rw [e]; exact h.gF)) hlt')).trans (hcc j u hu)⟩
end
end Go.Proofs.Ytodnojpolkdlmaa
