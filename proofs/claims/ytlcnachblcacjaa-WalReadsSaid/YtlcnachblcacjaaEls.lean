/-
  A list of lists of bytes in memory, and the one that is being written.
-/
import Derived.Test.YtlcnachblcacjaaGro
namespace Go.Proofs.Ytlcnachblcacjaa
open Go.RowKit

theorem Rd.of_block1 {w w' : World} {B : Nat} {A : Option Addr} {cs : List Value} (h : Rd w B A cs) (hb : ∀ a, A = some a → a.block < B → w'.heap[a.block]? = w.heap[a.block]?) : Rd w' B A cs := by
  rcases h with h | ⟨b, off, rfl, hlt, hc⟩
  · exact .inl h
  · exact .inr ⟨b, off, rfl, hlt, fun i x hx => (World.cell?_of_block (w := w) (a := ⟨b, off + i, none⟩) (hb ⟨b, off, none⟩ rfl hlt)).trans (hc i x hx)⟩
def Els (w : World) : List Value → List (List UInt8) → Prop
  | [], [] => True
  | v :: vs, x :: xs => (∃ A c, v = .slice A x.length c ∧ Bs w w.heap.size A x) ∧ Els w vs xs
  | _, _ => False
theorem Els.len {w : World} : ∀ {vs : List Value} {xs : List (List UInt8)}, Els w vs xs → vs.length = xs.length
  | [], [], _ => rfl
  | _ :: _, _ :: _, h => by rw [List.length_cons, List.length_cons, Els.len h.2]
  | [], _ :: _, h => h.elim
  | _ :: _, [], h => h.elim
theorem Els.snoc {w : World} {A : Option Addr} {x : List UInt8} {c : Nat} (hx : Bs w w.heap.size A x) : ∀ {vs : List Value} {xs : List (List UInt8)}, Els w vs xs → Els w (vs ++ [.slice A x.length c]) (xs ++ [x])
  | [], [], _ => ⟨⟨A, c, rfl, hx⟩, trivial⟩
  | _ :: _, _ :: _, h => ⟨h.1, Els.snoc hx h.2⟩
  | [], _ :: _, h => h.elim
  | _ :: _, [], h => h.elim
theorem Els.at_ {w : World} : ∀ {vs : List Value} {xs : List (List UInt8)} (_ : Els w vs xs) (i : Nat) (hi : i < xs.length), ∃ A c, vs[i]? = some (.slice A (xs[i]'hi).length c) ∧ Bs w w.heap.size A (xs[i]'hi)
  | _ :: _, _ :: _, h, 0, _ => by obtain ⟨A, c, rfl, hx⟩ := h.1; exact ⟨A, c, rfl, hx⟩
  | _ :: _, _ :: _, h, i + 1, hi => by simpa using Els.at_ h.2 i (by simpa using hi)
  | [], _ :: _, h, _, _ => h.elim
  | [], [], _, _, hi => by simp at hi
def farV (vs : List Value) (o : Option Nat) : Prop := ∀ v ∈ vs, ∀ a n c, v = .slice (some a) n c → some a.block ≠ o
theorem Els.keep {w w' : World} {o : Option Nat} : ∀ {vs : List Value} {xs : List (List UInt8)}, Els w vs xs → farV vs o → (∀ k, k < w.heap.size → some k ≠ o → w'.heap[k]? = w.heap[k]?) → w.heap.size ≤ w'.heap.size → Els w' vs xs
  | [], [], _, _, _, _ => trivial
  | _ :: _, _ :: _, h, hf, hb, hz => by
    obtain ⟨⟨A, c, rfl, hx⟩, h2⟩ := h
    exact ⟨⟨A, c, rfl, (hx.of_block1 fun a ha hl => hb _ hl (hf _ (List.mem_cons_self ..) a _ _ (by rw [ha]))).more hz⟩, Els.keep h2 (fun v hv => hf v (List.mem_cons_of_mem _ hv)) hb hz⟩
  | [], _ :: _, h, _, _, _ => h.elim
  | _ :: _, [], h, _, _, _ => h.elim
theorem farV.snoc {vs : List Value} {v : Value} {o : Option Nat} (h : farV vs o) (hv : ∀ a n c, v = .slice (some a) n c → some a.block ≠ o) : farV (vs ++ [v]) o := fun x hx a n c e => by
  rcases List.mem_append.1 hx with h1 | h1
  · exact h x h1 a n c e
  · rw [List.mem_singleton] at h1; exact hv a n c (h1 ▸ e)
theorem info_bytes : (Try.prog.info? 22).map (fun i => (i.zero, i.size, i.bytes)) = some (some (.slice none 0 0), 1, 24) := by kernel_rfl
/-- lists that stand whole (out), one that is being written (now); q: a block that is left alone -/
structure OutS (w0 w : World) (base : Nat) (q : Option Nat) (out : List (List UInt8)) (now : List UInt8) (ov rv : Value) (vs : List Value) : Prop where
  oo : Own w base 22 1 ov vs.length vs
  els : Els w vs out
  rr : Own w base 5 1 rv now.length (now.map byteV)
  nbk : nb rv.ownBlock ov.ownBlock
  fo : farV vs ov.ownBlock
  fr : ∀ k, rv.ownBlock = some k → farV vs (some k)
  flt : ∀ v ∈ vs, ∀ a n c, v = .slice (some a) n c → a.block < w.heap.size
  fq : farV vs q
  qo : nb q ov.ownBlock
  qr : nb q rv.ownBlock
  below : Below base w0 w
  size : w0.heap.size ≤ w.heap.size
  bs : base ≤ w0.heap.size
section
variable {w0 w w1 w2 : World} {base : Nat} {q : Option Nat} {out : List (List UInt8)} {now body : List UInt8} {ov rv v2 : Value} {vs : List Value}
theorem nb_kept {w w' : World} {base : Nat} {e : TypeId} {size : Nat} {v : Value} {n : Nat} {cs : List Value} {row : Option Nat} (h : Own w base e size v n cs) (hg : w.grownBy w' row) (hne : nb row v.ownBlock) : Own w' base e size v n cs :=
  h.of_block fun k hk => hg.block k (h.lt k hk).2 (by rcases hne with h0 | h0; rw [h0]; simp; rw [← hk]; exact Ne.symm h0)
theorem OutS.move (h : OutS w0 w base q out now ov rv vs) (hb : Below w.heap.size w w1) : OutS w0 w1 base q out now ov rv vs :=
  ⟨h.oo.keep hb (Nat.le_refl _), h.els.keep (o := none) (fun _ _ _ _ _ _ => by simp) (fun k hk _ => hb.block k hk) hb.size, h.rr.keep hb (Nat.le_refl _), h.nbk, h.fo, h.fr,
    fun v hv a n c e => Nat.lt_of_lt_of_le (h.flt v hv a n c e) hb.size, h.fq, h.qo, h.qr, h.below.trans (hb.mono (Nat.le_trans h.bs h.size)), Nat.le_trans h.size hb.size, h.bs⟩
theorem OutS.skip (h : OutS w0 w base q out now ov rv vs) (hg : w.grownBy w1 q) (hq : ∀ k, q = some k → base ≤ k) : OutS w0 w1 base q out now ov rv vs :=
  ⟨nb_kept h.oo hg h.qo, h.els.keep h.fq (fun k hk hne => hg.block k hk hne) hg.size, nb_kept h.rr hg h.qr, h.nbk, h.fo, h.fr,
    fun v hv a n c e => Nat.lt_of_lt_of_le (h.flt v hv a n c e) hg.size, h.fq, h.qo, h.qr, h.below.grown hg (Nat.le_trans h.bs h.size) hq, Nat.le_trans h.size hg.size, h.bs⟩
theorem OutS.appR (h : OutS w0 w base q out now ov rv vs) (hO : Own w1 base 5 1 v2 (now ++ body).length ((now ++ body).map byteV)) (hG : w.grownBy w1 rv.ownBlock) (hl : v2.ownBlock = rv.ownBlock ∨ v2.ownBlock = some w.heap.size)
    (hqz : ∀ k, q = some k → k < w.heap.size) : OutS w0 w1 base q out (now ++ body) ov v2 vs := by
  have hfr : farV vs rv.ownBlock := by
    rcases hr : rv.ownBlock with _ | k
    · exact fun _ _ _ _ _ _ => by simp
    · exact h.fr k hr
  refine ⟨nb_kept h.oo hG h.nbk, h.els.keep hfr (fun k hk hne => hG.block k hk hne) hG.size, hO, ?_, h.fo, ?_, fun v hv a n c e => Nat.lt_of_lt_of_le (h.flt v hv a n c e) hG.size, h.fq, h.qo, ?_, h.below.grown hG (Nat.le_trans h.bs h.size) (fun k hk => (h.rr.lt k hk).1), Nat.le_trans h.size hG.size, h.bs⟩
  · rcases hl with h2 | h2 <;> rw [h2]
    · exact h.nbk
    · rcases hq : ov.ownBlock with _ | k
      · exact .inr (by simp)
      · exact .inr fun e => by injection e with e; have := (h.oo.lt k hq).2; omega
  · intro k hk
    rcases hl with h2 | h2
    · exact h.fr k (h2 ▸ hk)
    · intro v hv a n c e e2
      have := h.flt v hv a n c e
      rw [hk] at h2; injection h2 with h2; injection e2 with e2; omega
  · rcases hl with h2 | h2 <;> rw [h2]
    · exact h.qr
    · rcases hq : q with _ | k
      · exact .inl rfl
      · exact .inr fun e => by injection e with e; have := hqz k hq; omega
theorem OutS.fin {A : Option Addr} {c : Nat} (h : OutS w0 w base q out now ov (.slice A now.length c) vs) (hO : Own w1 base 22 1 v2 (vs ++ [Value.slice A now.length c]).length (vs ++ [Value.slice A now.length c])) (hG : w.grownBy w1 ov.ownBlock)
    (hl : v2.ownBlock = ov.ownBlock ∨ v2.ownBlock = some w.heap.size) (hqz : ∀ k, q = some k → k < w.heap.size) : OutS w0 w1 base q (out ++ [now]) [] v2 (.slice none 0 0) (vs ++ [Value.slice A now.length c]) := by
  have hA : ∀ a, A = some a → (Value.slice A now.length c).ownBlock = some a.block := fun a ha => by rw [ha]; rfl
  have hrd : Bs w1 w1.heap.size A now := by
    refine (h.rr.rd'.of_block1 fun a ha hlt => hG.block _ hlt ?_).more hG.size
    rw [← hA a ha]
    rcases h.nbk with h2 | h2
    · rw [hA a ha] at h2; cases h2
    · exact h2
  have hlt : ∀ a, A = some a → a.block < w.heap.size := fun a ha => (h.rr.lt _ (hA a ha)).2
  refine ⟨hO, (h.els.keep h.fo (fun k hk hne => hG.block k hk hne) hG.size).snoc hrd, Own.nil _ _ _ _, .inl rfl, ?_, fun k hk => (by cases hk), ?_, ?_, ?_, ?_, h.below.grown hG (Nat.le_trans h.bs h.size) (fun k hk => (h.oo.lt k hk).1), Nat.le_trans h.size hG.size, h.bs⟩
  · rcases hl with h2 | h2
    · rw [h2]
      refine h.fo.snoc fun a n c' e => ?_
      injection e with e
      rw [← hA a e]
      rcases h.nbk with h3 | h3
      · rw [hA a e] at h3; cases h3
      · exact h3
    · rw [h2]
      refine farV.snoc (fun v hv a n c' e e2 => ?_) (fun a n c' e e2 => ?_)
      · have := h.flt v hv a n c' e; injection e2 with e2; omega
      · injection e with e; have := hlt a e; injection e2 with e2; omega
  · intro v hv a n c' e
    have hz := hG.size
    rcases List.mem_append.1 hv with h1 | h1
    · have := h.flt v h1 a n c' e; omega
    · rw [List.mem_singleton] at h1
      rw [h1] at e; injection e with e
      have := hlt a e; omega
  · refine h.fq.snoc fun a n c' e => ?_
    injection e with e
    rw [← hA a e]
    rcases h.qr with h3 | h3
    · rw [h3, hA a e]; simp
    · exact Ne.symm h3
  · rcases hl with h2 | h2 <;> rw [h2]
    · exact h.qo
    · rcases hq : q with _ | k
      · exact .inl rfl
      · exact .inr fun e => by injection e with e; have := hqz k hq; omega
  · rcases q with _ | k
    · exact .inl rfl
    · exact .inr (by simp [Value.ownBlock])
theorem OutS.start (hb : Below base w0 w) (hz : w0.heap.size ≤ w.heap.size) (hbs : base ≤ w0.heap.size) : OutS w0 w base q [] [] (.slice none 0 0) (.slice none 0 0) [] := by
  have hn : nb q (Value.slice none 0 0).ownBlock := by
    rcases q with _ | k
    · exact .inl rfl
    · exact .inr (by simp [Value.ownBlock])
  exact ⟨Own.nil _ _ _ _, trivial, Own.nil _ _ _ _, .inl rfl, fun _ h => (by cases h), fun _ h => (by cases h), fun _ h => (by cases h), fun _ h => (by cases h), hn, hn, hb, hz, hbs⟩
theorem nb_some {k : Nat} {o : Option Nat} (h : nb (some k) o) : some k ≠ o := by
  rcases h with h | h
  · cases h
  · exact h
theorem OutS.freshO (h : OutS w0 w base q [] now ov rv []) (hqz : ∀ k, q = some k → k < w.heap.size) : OutS w0 (w.alloc (.cells #[] 22)) base q [] now (.slice (some ⟨w.heap.size, 0, none⟩) 0 0) rv [] := by
  have hm := h.move (w1 := w.alloc (.cells #[] 22)) ((Below.refl _ w).alloc (Nat.le_refl _) _)
  refine ⟨(Blk.new w 22 #[]).own (Nat.le_trans h.bs h.size) (Nat.le_refl _) (by unfold maxLen; omega) rfl rfl, trivial, hm.rr, ?_, fun _ h => (by cases h), hm.fr, hm.flt, hm.fq, ?_, hm.qr, hm.below, hm.size, hm.bs⟩
  · rcases hq : rv.ownBlock with _ | k
    · exact .inl rfl
    · exact .inr fun e => by simp [Value.ownBlock] at e; have := (h.rr.lt k hq).2; omega
  · rcases hq : q with _ | k
    · exact .inl rfl
    · exact .inr fun e => by simp [Value.ownBlock] at e; have := hqz k hq; omega
theorem OutS.fresh (h : OutS w0 w base q out [] ov rv vs) (hqz : ∀ k, q = some k → k < w.heap.size) : OutS w0 (w.alloc (.cells #[] 5)) base q out [] ov (.slice (some ⟨w.heap.size, 0, none⟩) 0 0) vs := by
  have hm := h.move (w1 := w.alloc (.cells #[] 5)) ((Below.refl _ w).alloc (Nat.le_refl _) _)
  refine ⟨hm.oo, hm.els, (Blk.new w 5 #[]).own (Nat.le_trans h.bs h.size) (Nat.le_refl _) (by unfold maxLen; omega) rfl rfl, ?_, hm.fo, ?_, hm.flt, hm.fq, hm.qo, ?_, hm.below, hm.size, hm.bs⟩
  · rcases hq : ov.ownBlock with _ | k
    · exact .inr (by simp [Value.ownBlock])
    · exact .inr fun e => by simp [Value.ownBlock] at e; have := (h.oo.lt k hq).2; omega
  · intro k hk v hv a n c e e2
    simp [Value.ownBlock] at hk
    have := h.flt v hv a n c e; injection e2 with e2; omega
  · rcases hq : q with _ | k
    · exact .inl rfl
    · exact .inr fun e => by simp [Value.ownBlock] at e; have := hqz k hq; omega
end
end Go.Proofs.Ytlcnachblcacjaa
