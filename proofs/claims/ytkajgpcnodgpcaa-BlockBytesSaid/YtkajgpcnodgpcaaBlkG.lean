/-
  The program's writer: what add keeps.
-/
import Derived.Test.YtkajgpcnodgpcaaBlkF
namespace Go.Proofs.Ytkajgpcnodgpcaa
open Go.RowKit Go.IntWalk

theorem Rd.drew {w : World} {B : Nat} {A : Option Addr} {cs : List Value} (h : Rd w B A cs) : Rd w.drew B A cs := h
theorem Own.far {w : World} {base : Nat} {e : TypeId} {size : Nat} {v : Value} {n : Nat} {cs : List Value} (h : Own w base e size v n cs) {p : Addr} (hp : v.ownBlock ≠ some p.block) (u : Value) : Own (w.setCell p u) base e size v n cs :=
  h.of_block fun k hk => Below.heap_setCell w p u k (fun e => hp (by rw [hk, e]))
theorem Rd.far {w : World} {B : Nat} {A : Option Addr} {cs : List Value} (h : Rd w B A cs) {p : Addr} (hp : ∀ a, A = some a → a.block ≠ p.block) (u : Value) : Rd (w.setCell p u) B A cs := by
  rcases h with h | ⟨b, off, hA, hlt, hc⟩
  · exact .inl h
  · exact .inr ⟨b, off, hA, hlt, fun j x hx => (World.cell?_of_block (w := w) (Below.heap_setCell w p u b (hp _ hA))).trans (hc j x hx)⟩
structure AddS (w0 w : World) (base g kg R n : Nat) (lv : Value) (bl kl : List UInt8) (ws : List Nat) (bv wv : Value) : Prop where
  blk : Blk w g 63 #[.int .i64 R, .int .i64 n, lv, bv, wv]
  bg0 : base ≤ g
  ob : Own w base 5 1 bv bl.length (bl.map byteV)
  ow : Own w base 3 1 wv ws.length (ws.map intV)
  nbk : nb bv.ownBlock wv.ownBlock
  bg : bv.ownBlock ≠ some g
  wg : wv.ownBlock ≠ some g
  kr : Bs w w.heap.size (some ⟨kg, 0, none⟩) kl
  kb : some kg ≠ bv.ownBlock
  kw : some kg ≠ wv.ownBlock
  kne : kg ≠ g
  klt : kg < w.heap.size
  below : Below base w0 w
  size : w0.heap.size ≤ w.heap.size
  bs : base ≤ w0.heap.size
section
variable {w0 w w1 w2 : World} {base g kg R n : Nat} {lv : Value} {bl kl : List UInt8} {ws : List Nat} {bv wv v2 : Value}
theorem AddS.move (h : AddS w0 w base g kg R n lv bl kl ws bv wv) (hb : Below w.heap.size w w1) : AddS w0 w1 base g kg R n lv bl kl ws bv wv :=
  ⟨h.blk.below hb h.blk.lt, h.bg0, h.ob.keep hb (Nat.le_refl _), h.ow.keep hb (Nat.le_refl _), h.nbk, h.bg, h.wg, h.kr.next hb, h.kb, h.kw, h.kne, Nat.lt_of_lt_of_le h.klt hb.size,
    h.below.trans (hb.mono (Nat.le_trans h.bs h.size)), Nat.le_trans h.size hb.size, h.bs⟩
theorem AddS.appW {cs : List Nat} (h : AddS w0 w1 base g kg R n lv bl kl ws bv wv) (hO : Own w2 base 3 1 v2 (ws ++ cs).length ((ws ++ cs).map intV)) (hG : w1.grownBy w2 wv.ownBlock) (hl : v2.ownBlock = wv.ownBlock ∨ v2.ownBlock = some w1.heap.size) :
    AddS w0 (w2.setCell ⟨g, 4, none⟩ v2) base g kg R n lv bl kl (ws ++ cs) bv v2 := by
  have hz := hG.size
  have hg := h.blk.lt
  have hb2 := h.blk.grown hG (Ne.symm h.wg)
  have hv2 : v2.ownBlock ≠ some g := by
    rcases hl with h2 | h2 <;> rw [h2]
    · exact h.wg
    · intro e; injection e with e; omega
  refine ⟨hb2.set_ 4 v2, h.bg0, (h.ob.kept hG h.nbk).far h.bg v2, hO.far hv2 v2, ?_, h.bg, hv2, ?_, h.kb, ?_, h.kne, ?_, ?_, ?_, h.bs⟩
  · rcases hl with h2 | h2
    · rw [h2]; exact h.nbk
    · rw [h2]
      rcases hq : bv.ownBlock with _ | k
      · exact .inl rfl
      · refine .inr fun e => ?_
        injection e with e
        have := (h.ob.lt k hq).2; omega
  · have := ((h.kr.grown hG (Nat.le_refl _) (fun a ha => by injection ha with ha; rw [← ha]; exact h.kw)).more hz).far (p := ⟨g, 4, none⟩) (fun a ha => by injection ha with ha; rw [← ha]; exact h.kne) v2
    simpa using this
  · rcases hl with h2 | h2 <;> rw [h2]
    · exact h.kw
    · intro e; injection e with e; have := h.klt; omega
  · have := h.klt; simp; omega
  · exact (h.below.grown hG (Nat.le_trans h.bs h.size) (fun k hk => (h.ow.lt k hk).1)).setCell h.bg0 _
  · have := h.size; simp; omega
theorem AddS.appB {cs : List UInt8} (h : AddS w0 w1 base g kg R n lv bl kl ws bv wv) (hO : Own w2 base 5 1 v2 (bl ++ cs).length ((bl ++ cs).map byteV)) (hG : w1.grownBy w2 bv.ownBlock) (hl : From w1 bv v2) :
    AddS w0 (w2.setCell ⟨g, 3, none⟩ v2) base g kg R n lv (bl ++ cs) kl ws v2 wv := by
  have hz := hG.size
  have hg := h.blk.lt
  have hb2 := h.blk.grown hG (Ne.symm h.bg)
  have hv2 : v2.ownBlock ≠ some g := by
    rcases hl with h2 | h3
    · rw [h2]; exact h.bg
    · intro e; have := h3 _ e; omega
  refine ⟨hb2.set_ 3 v2, h.bg0, hO.far hv2 v2, (h.ow.kept hG (nb_symm h.nbk)).far h.wg v2, ?_, hv2, h.wg, ?_, ?_, h.kw, h.kne, ?_, ?_, ?_, h.bs⟩
  · rcases hl with h2 | h3
    · rw [h2]; exact h.nbk
    · rcases hq : v2.ownBlock with _ | k
      · exact .inl rfl
      · refine .inr fun e => ?_
        have := (h.ow.lt k e.symm).2
        have := h3 k hq; omega
  · have := ((h.kr.grown hG (Nat.le_refl _) (fun a ha => by injection ha with ha; rw [← ha]; exact h.kb)).more hz).far (p := ⟨g, 3, none⟩) (fun a ha => by injection ha with ha; rw [← ha]; exact h.kne) v2
    simpa using this
  · rcases hl with h2 | h3
    · rw [h2]; exact h.kb
    · intro e; have := h3 _ e.symm; have := h.klt; omega
  · have := h.klt; simp; omega
  · exact (h.below.grown hG (Nat.le_trans h.bs h.size) (fun k hk => (h.ob.lt k hk).1)).setCell h.bg0 _
  · have := h.size; simp; omega
end
def Wr (w : World) (base g R : Nat) (st : Wst) (lv bv wv : Value) : Prop :=
  Blk w g 63 #[.int .i64 R, .int .i64 st.n, lv, bv, wv] ∧ base ≤ g ∧ (∃ A c, lv = .slice A st.last.length c ∧ Bs w w.heap.size A st.last) ∧
    Own w base 5 1 bv st.b.length (st.b.map byteV) ∧ Own w base 3 1 wv st.ws.length (st.ws.map intV) ∧ nb bv.ownBlock wv.ownBlock ∧ bv.ownBlock ≠ some g ∧ wv.ownBlock ≠ some g
theorem AddS.fin {w0 w : World} {base g kg R n kc : Nat} {lv : Value} {bl kl : List UInt8} {ws : List Nat} {bv wv : Value} (h : AddS w0 w base g kg R n lv bl kl ws bv wv) :
    (∃ lv' bv' wv', Wr ((w.setCell ⟨g, 2, none⟩ (.slice (some ⟨kg, 0, none⟩) kl.length kc)).setCell ⟨g, 1, none⟩ (.int .i64 ((n : Int) + 1))) base g R ⟨n + 1, kl, bl, ws⟩ lv' bv' wv') ∧
      Below base w0 ((w.setCell ⟨g, 2, none⟩ (.slice (some ⟨kg, 0, none⟩) kl.length kc)).setCell ⟨g, 1, none⟩ (.int .i64 ((n : Int) + 1))) ∧
      w0.heap.size ≤ ((w.setCell ⟨g, 2, none⟩ (.slice (some ⟨kg, 0, none⟩) kl.length kc)).setCell ⟨g, 1, none⟩ (.int .i64 ((n : Int) + 1))).heap.size := by
  refine ⟨⟨_, bv, wv, (h.blk.set_ 2 _).set_ 1 _, h.bg0, ⟨_, kc, rfl, ?_⟩, (h.ob.far h.bg _).far h.bg _, (h.ow.far h.wg _).far h.wg _, h.nbk, h.bg, h.wg⟩, (h.below.setCell h.bg0 _).setCell h.bg0 _, ?_⟩
  · have hp : ∀ a : Addr, (some ⟨kg, 0, none⟩ : Option Addr) = some a → a.block ≠ g := fun a ha => by injection ha with ha; rw [← ha]; exact h.kne
    have := (h.kr.far (p := ⟨g, 2, none⟩) hp (.slice (some ⟨kg, 0, none⟩) kl.length kc)).far (p := ⟨g, 1, none⟩) hp (.int .i64 ((n : Int) + 1))
    simpa using this
  · have := h.size; simpa using this
end Go.Proofs.Ytkajgpcnodgpcaa
