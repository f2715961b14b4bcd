/-
  Heights: one entry more in the box.
-/
import Derived.Test.YtodnojpolkdlmaaHtA
namespace Go.Proofs.Ytodnojpolkdlmaa
set_option linter.unusedSimpArgs false
set_option linter.unusedVariables false
open Go.RowKit Go.IntWalk

theorem LpI.app {K : Nat → Prop} {w0 : World} {c : Nat} {wc : World} {c' bx bz : Nat} {vz : Value} {nz : Nat} {cz : List Value} {R : Nat → Prop} {l : List E} {W W5 : World} {v v' : Value} {e : E} (h : LpI K w0 c wc c' bx bz vz nz cz R l W) (hcc : c ≤ c') (hv : Blk W bx 40 #[v])
    (ho : Own W5 c 47 4 v' (l.length + 1) (entsC l ++ entC e)) (hg : W.grownBy W5 v.ownBlock) (hl : v'.ownBlock = v.ownBlock ∨ v'.ownBlock = some W.heap.size) :
    Turn (fun _ => False) R (fun k => R k ∨ (W.heap.size ≤ k ∧ k < W5.heap.size)) W (W5.setCell ⟨bx, 0, none⟩ v') ∧ LpI K w0 c wc c' bx bz vz nz cz (fun k => R k ∨ (W.heap.size ≤ k ∧ k < W5.heap.size)) (l ++ [e]) (W5.setCell ⟨bx, 0, none⟩ v') := by
  obtain ⟨v0, h1, h2, h3⟩ := h.ex
  have hvv : v0 = v := by
    have := h1.symm.trans hv
    injection this with this
    injection this with this
    simpa using this
  subst hvv
  obtain ⟨z1, z2, z3⟩ := h.oz
  obtain ⟨b1, b2, b3, b4, b5, b6⟩ := h.bc
  have hz := hg.size
  have hbxR := h.up bx b2
  have hbzR := h.up bz b4
  have hbxl := h.dn bx hbxR
  have hbzl := h.dn bz hbzR
  have hzs : (W5.setCell ⟨bx, 0, none⟩ v').heap.size = W5.heap.size := by simp
  have hblk : ∀ j, j < W.heap.size → j ≠ bx → some j ≠ v0.ownBlock → (W5.setCell ⟨bx, 0, none⟩ v').heap[j]? = W.heap[j]? := fun j hj hn hn2 => (Below.heap_setCell W5 _ _ j hn).trans (hg.block j hj hn2)
  have hvb : ∀ k, v'.ownBlock = some k → (R k ∨ (W.heap.size ≤ k ∧ k < W5.heap.size)) ∧ k ≠ bx ∧ k ≠ bz ∧ vz.ownBlock ≠ some k ∧ ¬ K k := fun k hk => by
    rcases hl with e' | e'
    · rw [e'] at hk
      exact ⟨.inl (h3 k hk).1, (h3 k hk).2⟩
    · have hkl := (ho.lt k hk).2
      rw [e'] at hk
      injection hk with hk
      refine ⟨.inr ⟨by omega, hkl⟩, by omega, by omega, fun e2 => ?_, fun hK => ?_⟩
      · have := h.dn k (z3 k e2).1; omega
      · have := h.dn k (h.up k (h.kp k hK).1); omega
  refine ⟨⟨⟨hg.os, hg.tape, hg.output, by rw [hzs]; exact hz, fun j hj hn => hblk j hj (fun e' => hn ⟨by rw [e']; exact hbxR, fun h => h⟩) fun e' => hn ⟨(h3 j e'.symm).1, fun h => h⟩⟩, fun k hk => .inl hk, fun k hk => hk.elim .inl fun e' => .inr ⟨e'.1, by rw [hzs]; exact e'.2⟩⟩, ?_⟩
  have hvc : ∀ k, v0.ownBlock = some k → c ≤ k := fun k hk => (h2.lt k hk).1
  refine ⟨h.bel.trans ⟨hg.os, hg.tape, hg.output, by rw [hzs]; exact hz, fun j hj => hblk j (by omega) (by omega) fun e' => by have := hvc j e'.symm; omega⟩, fun k hk => .inl (h.up k hk), fun k hk => ?_, ⟨b1, b2, b3, b4, b5, by rw [hzs]; omega⟩, ⟨v', ?_, ?_, hvb⟩, fun k hK => ⟨(h.kp k hK).1, (h.kp k hK).2.1, (hblk k (h.dn k (h.up k (h.kp k hK).1)) (h.kp k hK).2.1 fun e' => (h3 k e'.symm).2.2.2.2 hK).trans (h.kp k hK).2.2⟩, ?_, ?_, fun k hk => ⟨.inl (z3 k hk).1, (z3 k hk).2⟩⟩
  · rw [hzs]
    rcases hk with hk | hk
    · have := h.dn k hk; omega
    · exact hk.2
  · have hb5 : Blk W5 bx 40 #[v0] := (hg.block bx hbxl fun e' => (h3 bx e'.symm).2.1 rfl).trans h1
    have := hb5.set_ 0 v'
    simpa using this
  · rw [entsC_snoc, List.length_append]
    exact ho.far (p := ⟨bx, 0, none⟩) (fun e' => (hvb bx e').2.1 rfl) v'
  · exact (hblk bz hbzl (Ne.symm b5) fun e' => (h3 bz e'.symm).2.2.1 rfl).trans z1
  · exact z2.of_block fun k hk => hblk k (h.dn k (z3 k hk).1) (z3 k hk).2 fun e' => (h3 k e'.symm).2.2.2.1 hk
end Go.Proofs.Ytodnojpolkdlmaa
