/-
  A range over a function whose iterator works in blocks of its own, and whose body works in blocks of its own: two parties, each leaving the other's blocks alone.
-/
import Derived.Test.YtodnojpolkdlmaaMem
import Derived.RangeFuncNested
import Derived.RangeFuncLeaves
namespace Go.Proofs.Ytodnojpolkdlmaa
open Go.RowKit

/-- w' is w but for the blocks F and new ones (a word of its own, for any change of objects) -/
structure Ch (w w' : World) (F : Nat → Prop) : Prop where
  os : w'.os = w.os
  tape : w'.tape = w.tape
  output : w'.output = w.output
  size : w.heap.size ≤ w'.heap.size
  block : ∀ k, k < w.heap.size → ¬ F k → w'.heap[k]? = w.heap[k]?
theorem Ch.refl (w : World) (F : Nat → Prop) : Ch w w F := ⟨rfl, rfl, rfl, Nat.le_refl _, fun _ _ _ => rfl⟩
theorem Ch.trans {w w1 w2 : World} {F : Nat → Prop} (h : Ch w w1 F) (k : Ch w1 w2 F) : Ch w w2 F :=
  ⟨k.os.trans h.os, k.tape.trans h.tape, k.output.trans h.output, Nat.le_trans h.size k.size, fun j hj hn => (k.block j (Nat.lt_of_lt_of_le hj h.size) hn).trans (h.block j hj hn)⟩
theorem Ch.more {w w' : World} {F G : Nat → Prop} (h : Ch w w' F) (hFG : ∀ k, k < w.heap.size → F k → G k) : Ch w w' G :=
  ⟨h.os, h.tape, h.output, h.size, fun k hk hn => h.block k hk fun hF => hn (hFG k hk hF)⟩
theorem Ch.below {w w' : World} {F : Nat → Prop} (h : Below w.heap.size w w') : Ch w w' F := ⟨h.os, h.tape, h.output, h.size, fun k hk _ => h.block k hk⟩
theorem Ch.toBelow {w w' : World} {F : Nat → Prop} {B : Nat} (h : Ch w w' F) (hB : B ≤ w.heap.size) (hF : ∀ k, k < B → ¬ F k) : Below B w w' :=
  ⟨h.os, h.tape, h.output, h.size, fun k hk => h.block k (Nat.lt_of_lt_of_le hk hB) (hF k hk)⟩
theorem Ch.putObj {w : World} {F : Nat → Prop} (l : Nat) (o : Obj) (hl : F l) : Ch w (w.putObj l o) F :=
  ⟨rfl, rfl, rfl, by unfold World.putObj; simp, fun k _ hn => World.putObj_heap_other (fun e => hn (by first | exact e ▸ hl | exact e.symm ▸ hl))⟩
/-- what the caller of an iterator keeps: R are the caller's blocks, s what has come -/
abbrev Inv (α : Type) := (Nat → Prop) → List α → World → Prop
structure Abide {α : Type} (J : Inv α) : Prop where
  keep : ∀ {R : Nat → Prop} {s : List α} {A B : World}, J R s A → Ch A B (fun k => ¬ R k) → J R s B
/-- a turn of the caller's: R its blocks ahead, R' behind; D the iterator's data -/
structure Turn (D R R' : Nat → Prop) (w w' : World) : Prop where
  ch : Ch w w' (fun k => R k ∧ ¬ D k)
  up : ∀ k, R k → R' k
  dn : ∀ k, R' k → R k ∨ (w.heap.size ≤ k ∧ k < w'.heap.size)
theorem Turn.trans {D R R1 R2 : Nat → Prop} {w w1 w2 : World} (h : Turn D R R1 w w1) (k : Turn D R1 R2 w1 w2) : Turn D R R2 w w2 := by
  have hz := h.ch.size
  have hz2 := k.ch.size
  refine ⟨⟨k.ch.os.trans h.ch.os, k.ch.tape.trans h.ch.tape, k.ch.output.trans h.ch.output, Nat.le_trans hz hz2, fun j hj hn => ?_⟩, fun j hj => k.up j (h.up j hj), fun j hj => ?_⟩
  · refine (k.ch.block j (by omega) fun hr => hn ⟨?_, hr.2⟩).trans (h.ch.block j hj hn)
    rcases h.dn j hr.1 with h1 | h1
    · exact h1
    · omega
  · rcases k.dn j hj with h1 | h1
    · rcases h.dn j h1 with h2 | h2
      · exact .inl h2
      · exact .inr ⟨h2.1, by omega⟩
    · exact .inr ⟨by omega, h1.2⟩
/-- an iterator: called in W with the body of a loop, it hands one element after the other to the body, till all have come or the body says no -/
def SeqX {α : Type} (F : Fence) (n : Nat) (P : Program) (g : Nat) (lb : Array Value) (encs : α → Array Value) (D : Nat → Prop) (S Sp : List α → Prop) (N : Nat) (W : World) : Prop :=
  ∀ (l : Nat) (J Jx : Inv α), Abide J → Abide Jx →
    (∀ R pre x W1, J R pre W1 → pre.length < N → Sp (pre ++ [x]) → YieldAt F (n - 1) P l (encs x) W1 fun e W' =>
      (e = .returned (.bool true) ∧ ∃ R', J R' (pre ++ [x]) W' ∧ Turn D R R' W1 W') ∨ (e = .returned (.bool false) ∧ ∃ R', Jx R' (pre ++ [x]) W' ∧ Turn D R R' W1 W')) →
    J (fun k => k < W.heap.size) [] W →
    CallsIn F n P g (#[.func (.yield l) #[] #[]] ++ lb) W fun e W' => (∃ v, e = .returned v) ∧ ((∃ xs R, S xs ∧ J R xs W') ∨ (∃ pre R, Sp pre ∧ Jx R pre W'))

variable {F : Fence} {n : Nat} {P : Program}

def ownPostX {α : Type} (D R : Nat → Prop) (I : Inv α) (Ix : Code → Inv α) (s : List α) (W : World) : Exit → Act → World → Prop
  | .normal, _, W' => ∃ R', Turn D R R' W W' ∧ I R' s W'
  | .ret, _, W' => ∃ R', Turn D R R' W W' ∧ Ix .ret R' s W'
  | .exit id, _, W' => ∃ R', Turn D R R' W W' ∧ Ix (.exit id) R' s W'
  | .goto t, _, W' => ∃ R', Turn D R R' W W' ∧ Ix (.goto t) R' s W'
  | .panic _, _, _ => False
  | .outgrown, _, _ => False

/-- the statement, outside every round -/
theorem wpIn_rangeX {α : Type} {g : Operand} {ps : Array Tmp} {assign body : Code} {Q : Exit → Act → World → Prop} {a : Act} {w : World}
    (hro : F.round = none) (h1 : 1 ≤ n) {gf : Nat} {lb : Array Value} (hg : a.eval g = .func (.func gf) #[] lb) (hFg : F.fn gf) (eg : ∀ args w, (callFunc gf args).run P w = .ok (.enter gf args) w)
    {encs : α → Array Value} {D : Nat → Prop} {S Sp : List α → Prop} {N : Nat} (hseq : ∀ W, Below w.heap.size w W → SeqX F (n - 1) P gf lb encs D S Sp N W)
    (hD : ∀ k, D k → k < w.heap.size) (hps : ∀ x, (encs x).size = ps.size)
    (I : Inv α) (Ix : Code → Inv α) (hI : Abide I) (hIx : ∀ c, Abide (Ix c)) (h0 : I (fun k => k < w.heap.size) [] w)
    (Ax : List α → α → Act → (Nat → Prop) → World → Prop) (hAx : ∀ pre x a' R A B, Ax pre x a' R A → Ch A B (fun k => ¬ R k) → Ax pre x a' R B)
    (hassign : ∀ (l : Nat) (R : Nat → Prop) (pre : List α) (x : α) (W : World), I R pre W → pre.length < N → Sp (pre ++ [x]) →
      assign.wpIn (F.inRound l) (n - 1 - 1) P (Exit.then (fun a' W' => ∃ R', Turn D R R' W W' ∧ Ax pre x a' R' W') (fun _ _ _ => False)) { tmps := (ps.zip (encs x)).foldl (fun t (p, v) => t.setIfInBounds p v) a.tmps, defers := [] } W)
    (hbody : ∀ (l : Nat) (R : Nat → Prop) (pre : List α) (x : α) (a' : Act) (W : World), (∃ r, W.heap[l]? = some (.loop r)) → Ax pre x a' R W → pre.length < N → Sp (pre ++ [x]) →
      body.wpIn (F.inRound l) (n - 1 - 1) P (ownPostX D R I Ix (pre ++ [x]) W) a' W)
    (hdone : ∀ (d : Nat) (R : Nat → Prop) (xs : List α) (W : World), w.heap.size ≤ d → ¬ R d → S xs → I R xs W → W.heap[d]? = some (.deferred (some [])) → Q .normal { a with defers := { target := .collected d, args := #[] } :: a.defers } W)
    (hstop : ∀ (d : Nat) (c : Code) (R : Nat → Prop) (pre : List α) (W : World), w.heap.size ≤ d → ¬ R d → Sp pre → Ix c R pre W → W.heap[d]? = some (.deferred (some [])) → c.wpIn F n P Q { a with defers := { target := .collected d, args := #[] } :: a.defers } W) :
    (Code.rangeFunc g ps assign body).wpIn F n P Q a w := by
  refine wpIn_rangeFunc ?_
  intro fn hfn
  rw [hro]
  obtain ⟨rec, hrec⟩ : ∃ rec : LoopState → Option Code → Loop, rec = fun st pe => { state := st, pending := pe, fn, tmps := a.tmps, params := ps, assign, body, defers := w.heap.size } := ⟨_, rfl⟩
  obtain ⟨l, hl0⟩ : ∃ l, l = w.heap.size + 1 := ⟨_, rfl⟩
  obtain ⟨d, hd0⟩ : ∃ d, d = w.heap.size := ⟨_, rfl⟩
  obtain ⟨W1, hW1⟩ : ∃ W1, (w.alloc (.deferred (some []))).alloc (.loop (rec .ready none)) = W1 := ⟨_, rfl⟩
  have hL1 : W1.heap[l]? = some (.loop (rec .ready none)) := by
    rw [← hW1, hl0]; have := World.alloc_heap_new (w.alloc (.deferred (some []))) (.loop (rec .ready none)); rwa [World.size_alloc] at this
  have hK1 : W1.heap[d]? = some (.deferred (some [])) := by
    rw [← hW1, hd0]; exact (Below.heap_alloc _ _ _ (by simp)).trans (World.alloc_heap_new w _)
  have hb1 : Below w.heap.size w W1 := by
    rw [← hW1]; exact ((Below.refl _ w).alloc (Nat.le_refl _) _).alloc (by simp) _
  have hz1 : W1.heap.size = w.heap.size + 2 := by rw [← hW1]; simp
  -- the two blocks of book-keeping, and the caller's own
  let Bk : (Nat → Prop) → (Nat → Prop) → LoopState → Option Code → World → Prop := fun R Ru st pe W =>
    (∀ k, Ru k → R k) ∧ (∀ k, R k → Ru k ∨ k = l ∨ k = d) ∧ (R l ∧ R d) ∧ (¬ Ru l ∧ ¬ Ru d) ∧ W.heap[l]? = some (.loop (rec st pe)) ∧ W.heap[d]? = some (.deferred (some []))
  have bkA : ∀ {R Ru : Nat → Prop} {st : LoopState} {pe : Option Code} {A B : World}, Bk R Ru st pe A → Ch A B (fun k => ¬ R k) → Bk R Ru st pe B := by
    rintro R Ru st pe A B ⟨b1, b2, ⟨b3, b4⟩, b5, b6, b7⟩ hc
    exact ⟨b1, b2, ⟨b3, b4⟩, b5, (hc.block l (Array.getElem?_eq_some_iff.1 b6).1 (fun h => h b3)).trans b6, (hc.block d (Array.getElem?_eq_some_iff.1 b7).1 (fun h => h b4)).trans b7⟩
  refine ⟨w.heap.size + 1, [{ target := .collected w.heap.size, args := #[] }], W1, { target := .fn (.func gf) lb, args := #[.func (.yield (w.heap.size + 1)) #[] #[]] }, W1, gf,
    #[.func (.yield (w.heap.size + 1)) #[] #[]] ++ lb, W1, ?_, ?_, ?_, ?_, fun _ => h1, ?_⟩
  · rw [← hW1, hrec]; exact run_enterLoop_outer _ _ _ _ _
  · simp only [resolve, hg]
    simp [go_sem]
  · intro f' hf'; simp [Target.leads] at hf'; subst hf'; exact hFg
  · simp [invoke, go_sem, eg]
  rw [← hl0, ← hd0]
  refine ((hseq W1 hb1) l
    (fun R pre W => ∃ Ru, I Ru pre W ∧ Bk R Ru .ready none W)
    (fun R pre W => ∃ c Ru, Ix c Ru pre W ∧ Bk R Ru .done (some c) W)
    ⟨fun {R s A B} ⟨Ru, hi, hb⟩ hc => ⟨Ru, hI.keep hi (hc.more fun k _ h hu => h (hb.1 k hu)), bkA hb hc⟩⟩
    ⟨fun {R s A B} ⟨c, Ru, hi, hb⟩ hc => ⟨c, Ru, (hIx c).keep hi (hc.more fun k _ h hu => h (hb.1 k hu)), bkA hb hc⟩⟩
    ?_ ⟨fun k => k < w.heap.size, hI.keep h0 (Ch.below hb1 |>.more fun _ _ h => h), fun k hk => by omega, fun k hk => by omega, ⟨by omega, by omega⟩, ⟨by omega, by omega⟩, hL1, hK1⟩).mono ?_
  · rintro R pre x W ⟨Ru, hi, hb⟩ hlen hsp
    obtain ⟨b1, b2, ⟨b3, b4⟩, ⟨b5, b5'⟩, b6, b7⟩ := hb
    have hlt : l < W.heap.size := (Array.getElem?_eq_some_iff.1 b6).1
    have hdt : d < W.heap.size := (Array.getElem?_eq_some_iff.1 b7).1
    have hy := run_yield (P := P) (args := encs x) b6 (by rw [hrec]; exact hps x)
    rw [hrec] at hy
    refine ⟨fn, _, assign, body, hy, roundIn_of_wpIn hfn (wpIn_mono (hassign l Ru pre x W hi hlen hsp) ?_)⟩
    clear hy
    rintro e a' Wa hp
    cases e with
    | ret => exact hp.elim
    | exit id => exact hp.elim
    | goto t => exact hp.elim
    | panic c => exact hp.elim
    | outgrown => exact hp.elim
    | normal =>
    obtain ⟨Ra, hta, hax⟩ := hp
    have hza := hta.ch.size
    have hla : Wa.heap[l]? = some (.loop (rec .ready none)) := (hta.ch.block l hlt fun h => b5 h.1).trans b6
    have hda : Wa.heap[d]? = some (.deferred (some [])) := (hta.ch.block d hdt fun h => b5' h.1).trans b7
    have hRal : ¬ Ra l := fun h => by rcases hta.dn l h with h | h; exact b5 h; omega
    have hRad : ¬ Ra d := fun h => by rcases hta.dn d h with h | h; exact b5' h; omega
    refine ⟨_, run_beginRound hla (by rw [hrec]), ?_⟩
    have hl2 : (Wa.putObj l (.loop { rec .ready none with state := .busy })).heap[l]? = some (.loop { rec .ready none with state := .busy }) := World.putObj_heap_same (by omega)
    have hd2 : (Wa.putObj l (.loop { rec .ready none with state := .busy })).heap[d]? = some (.deferred (some [])) := (World.putObj_heap_other (by omega)).trans hda
    have hc2 : Ch Wa (Wa.putObj l (.loop { rec .ready none with state := .busy })) (fun k => k = l) := Ch.putObj l _ rfl
    have hz2 : (Wa.putObj l (.loop { rec .ready none with state := .busy })).heap.size = Wa.heap.size := by unfold World.putObj; simp
    refine wpIn_mono (hbody l Ra pre x a' _ ⟨_, hl2⟩ (hAx _ _ _ _ _ _ hax (hc2.more fun k _ e => by rw [e]; exact hRal)) hlen hsp) ?_
    generalize Wa.putObj l (.loop { rec .ready none with state := .busy }) = W2 at *
    have fin : ∀ (jump : Option Code) (R' : Nat → Prop) (W3 : World), Turn D Ra R' W2 W3 →
        (Instr.endRound l jump).run P W3 = .ok (.bool jump.isNone) (W3.putObj l (.loop (rec (if jump.isNone then .ready else .done) jump))) ∧
        Ch W3 (W3.putObj l (.loop (rec (if jump.isNone then .ready else .done) jump))) (fun k => ¬ R' k) ∧
        Bk (fun k => R' k ∨ k = l ∨ k = d) R' (if jump.isNone then .ready else .done) jump (W3.putObj l (.loop (rec (if jump.isNone then .ready else .done) jump))) ∧
        Turn D R (fun k => R' k ∨ k = l ∨ k = d) W (W3.putObj l (.loop (rec (if jump.isNone then .ready else .done) jump))) := by
      intro jump R' W3 ht
      have hz3 := ht.ch.size
      have hl3 : W3.heap[l]? = some (.loop { rec .ready none with state := .busy }) := (ht.ch.block l (by omega) fun h => hRal h.1).trans hl2
      have hd3 : W3.heap[d]? = some (.deferred (some [])) := (ht.ch.block d (by omega) fun h => hRad h.1).trans hd2
      have hRl : ¬ R' l := fun h => by rcases ht.dn l h with h | h; exact hRal h; omega
      have hRd : ¬ R' d := fun h => by rcases ht.dn d h with h | h; exact hRad h; omega
      have hr := run_endRound (P := P) jump hl3
      have hz4 : ∀ o, (W3.putObj l o).heap.size = W3.heap.size := fun o => by unfold World.putObj; simp
      refine ⟨?_, Ch.putObj l _ hRl, ⟨fun k hk => .inl hk, fun k hk => hk, ⟨.inr (.inl rfl), .inr (.inr rfl)⟩, ⟨hRl, hRd⟩, World.putObj_heap_same (by omega), (World.putObj_heap_other (by omega)).trans hd3⟩, ?_⟩
      · rw [hrec] at hr ⊢; exact hr
      · refine ⟨⟨?_, ?_, ?_, ?_, ?_⟩, ?_, ?_⟩
        · exact ht.ch.os.trans (hc2.os.trans hta.ch.os)
        · exact ht.ch.tape.trans (hc2.tape.trans hta.ch.tape)
        · exact ht.ch.output.trans (hc2.output.trans hta.ch.output)
        · rw [hz4]; omega
        · intro k hk hn
          have hkl : k ≠ l := fun e => hn ⟨by rw [e]; exact b3, fun hd => by have := hD k hd; omega⟩
          have hkd : k ≠ d := fun e => hn ⟨by rw [e]; exact b4, fun hd => by have := hD k hd; omega⟩
          have hnu : ¬ (Ru k ∧ ¬ D k) := fun h => hn ⟨b1 k h.1, h.2⟩
          have hna : ¬ (Ra k ∧ ¬ D k) := fun h => hnu ⟨by rcases hta.dn k h.1 with h1 | h1; exact h1; omega, h.2⟩
          refine (World.putObj_heap_other (by first | exact hkl | exact hkl.symm)).trans ((ht.ch.block k (by omega) hna).trans ((hc2.block k (by omega) hkl).trans (hta.ch.block k hk hnu)))
        · intro k hk
          rcases b2 k hk with h | h | h
          · exact .inl (ht.up k (hta.up k h))
          · exact .inr (.inl h)
          · exact .inr (.inr h)
        · intro k hk
          rcases hk with h | h | h
          · rcases ht.dn k h with h2 | h2
            · rcases hta.dn k h2 with h3 | h3
              · exact .inl (b1 k h3)
              · exact .inr ⟨h3.1, by rw [hz4]; omega⟩
            · exact .inr ⟨by omega, by rw [hz4]; omega⟩
          · exact .inl (by rw [h]; exact b3)
          · exact .inl (by rw [h]; exact b4)
    rintro e a3 W3 hp
    cases e with
    | normal =>
      obtain ⟨R', ht, hi3⟩ := hp
      obtain ⟨hr, hc, hb, htt⟩ := fin none R' W3 ht
      exact ⟨_, _, hr, .inl ⟨rfl, _, ⟨R', hI.keep hi3 hc, hb⟩, htt⟩⟩
    | ret =>
      obtain ⟨R', ht, hi3⟩ := hp
      obtain ⟨hr, hc, hb, htt⟩ := fin (some .ret) R' W3 ht
      exact ⟨_, _, hr, .inr ⟨rfl, _, ⟨.ret, R', (hIx _).keep hi3 hc, hb⟩, htt⟩⟩
    | exit id =>
      obtain ⟨R', ht, hi3⟩ := hp
      obtain ⟨hr, hc, hb, htt⟩ := fin (some (.exit id)) R' W3 ht
      exact ⟨_, _, hr, .inr ⟨rfl, _, ⟨.exit id, R', (hIx _).keep hi3 hc, hb⟩, htt⟩⟩
    | goto t =>
      obtain ⟨R', ht, hi3⟩ := hp
      obtain ⟨hr, hc, hb, htt⟩ := fin (some (.goto t)) R' W3 ht
      exact ⟨_, _, hr, .inr ⟨rfl, _, ⟨.goto t, R', (hIx _).keep hi3 hc, hb⟩, htt⟩⟩
    | panic ch => exact hp.elim
    | outgrown => exact hp.elim
  · rintro e W2 ⟨⟨v, rfl⟩, (⟨xs, R, hS, Ru, hi, hb⟩ | ⟨pre, R, hSp, c, Ru, hi, hb⟩)⟩
    · obtain ⟨b1, b2, ⟨b3, b4⟩, ⟨b5, b5'⟩, b6, b7⟩ := hb
      exact ⟨none, _, by have := run_endLoop (P := P) b6 (by rw [hrec]; simp); rw [hrec] at this; exact this, hdone d Ru xs _ (by omega) b5' hS (hI.keep hi (Ch.putObj l _ b5)) ((World.putObj_heap_other (by omega)).trans b7)⟩
    · obtain ⟨b1, b2, ⟨b3, b4⟩, ⟨b5, b5'⟩, b6, b7⟩ := hb
      exact ⟨some c, _, by have := run_endLoop (P := P) b6 (by rw [hrec]; simp); rw [hrec] at this; exact this, hstop d c Ru pre _ (by omega) b5' hSp ((hIx c).keep hi (Ch.putObj l _ b5)) ((World.putObj_heap_other (by omega)).trans b7)⟩
/-- the statement within a round of loop l₀ -/
theorem wpIn_rangeXN {α : Type} {g : Operand} {ps : Array Tmp} {assign body : Code} {Q : Exit → Act → World → Prop} {a : Act} {w : World}
    {l₀ : Nat} {r₀ : Loop} (hro : F.round = some l₀) (hl₀ : w.heap[l₀]? = some (.loop r₀)) (h1 : 1 ≤ n) {gf : Nat} {lb : Array Value} (hg : a.eval g = .func (.func gf) #[] lb) (hFg : F.fn gf) (eg : ∀ args w, (callFunc gf args).run P w = .ok (.enter gf args) w)
    {encs : α → Array Value} {D : Nat → Prop} {S Sp : List α → Prop} {N : Nat} (hseq : ∀ W, Below w.heap.size w W → SeqX F (n - 1) P gf lb encs D S Sp N W)
    (hD : ∀ k, D k → k < w.heap.size) (hps : ∀ x, (encs x).size = ps.size)
    (I : Inv α) (Ix : Code → Inv α) (hI : Abide I) (hIx : ∀ c, Abide (Ix c)) (h0 : I (fun k => k < w.heap.size) [] w)
    (Ax : List α → α → Act → (Nat → Prop) → World → Prop) (hAx : ∀ pre x a' R A B, Ax pre x a' R A → Ch A B (fun k => ¬ R k) → Ax pre x a' R B)
    (hassign : ∀ (l : Nat) (R : Nat → Prop) (pre : List α) (x : α) (W : World), I R pre W → pre.length < N → Sp (pre ++ [x]) →
      assign.wpIn (F.inRound l) (n - 1 - 1) P (Exit.then (fun a' W' => ∃ R', Turn D R R' W W' ∧ Ax pre x a' R' W') (fun _ _ _ => False)) { tmps := (ps.zip (encs x)).foldl (fun t (p, v) => t.setIfInBounds p v) a.tmps, defers := [] } W)
    (hbody : ∀ (l : Nat) (R : Nat → Prop) (pre : List α) (x : α) (a' : Act) (W : World), (∃ r, W.heap[l]? = some (.loop r)) → Ax pre x a' R W → pre.length < N → Sp (pre ++ [x]) →
      body.wpIn (F.inRound l) (n - 1 - 1) P (ownPostX D R I Ix (pre ++ [x]) W) a' W)
    (hdone : ∀ (R : Nat → Prop) (xs : List α) (W : World), S xs → I R xs W → Q .normal a W)
    (hstop : ∀ (c : Code) (R : Nat → Prop) (pre : List α) (W : World), Sp pre → Ix c R pre W → c.wpIn F n P Q a W) :
    (Code.rangeFunc g ps assign body).wpIn F n P Q a w := by
  refine wpIn_rangeFunc ?_
  intro fn hfn
  rw [hro]
  obtain ⟨rec, hrec⟩ : ∃ rec : LoopState → Option Code → Loop, rec = fun st pe => { state := st, pending := pe, fn, tmps := a.tmps, params := ps, assign, body, defers := r₀.defers } := ⟨_, rfl⟩
  obtain ⟨l, hl0⟩ : ∃ l, l = w.heap.size := ⟨_, rfl⟩
  obtain ⟨W1, hW1⟩ : ∃ W1, w.alloc (.loop (rec .ready none)) = W1 := ⟨_, rfl⟩
  have hL1 : W1.heap[l]? = some (.loop (rec .ready none)) := by
    rw [← hW1, hl0]; exact World.alloc_heap_new w _
  have hb1 : Below w.heap.size w W1 := by
    rw [← hW1]; exact (Below.refl _ w).alloc (Nat.le_refl _) _
  have hz1 : W1.heap.size = w.heap.size + 1 := by rw [← hW1]; simp
  -- the two blocks of book-keeping, and the caller's own
  let Bk : (Nat → Prop) → (Nat → Prop) → LoopState → Option Code → World → Prop := fun R Ru st pe W =>
    (∀ k, Ru k → R k) ∧ (∀ k, R k → Ru k ∨ k = l) ∧ R l ∧ ¬ Ru l ∧ W.heap[l]? = some (.loop (rec st pe))
  have bkA : ∀ {R Ru : Nat → Prop} {st : LoopState} {pe : Option Code} {A B : World}, Bk R Ru st pe A → Ch A B (fun k => ¬ R k) → Bk R Ru st pe B := by
    rintro R Ru st pe A B ⟨b1, b2, b3, b5, b6⟩ hc
    exact ⟨b1, b2, b3, b5, (hc.block l (Array.getElem?_eq_some_iff.1 b6).1 (fun h => h b3)).trans b6⟩
  refine ⟨w.heap.size, [], W1, { target := .fn (.func gf) lb, args := #[.func (.yield w.heap.size) #[] #[]] }, W1, gf,
    #[.func (.yield w.heap.size) #[] #[]] ++ lb, W1, ?_, ?_, ?_, ?_, fun _ => h1, ?_⟩
  · rw [← hW1, hrec]; exact run_enterLoop_inner hl₀ _ _ _ _ _
  · simp only [resolve, hg]
    simp [go_sem]
  · intro f' hf'; simp [Target.leads] at hf'; subst hf'; exact hFg
  · simp [invoke, go_sem, eg]
  rw [← hl0]
  refine ((hseq W1 hb1) l
    (fun R pre W => ∃ Ru, I Ru pre W ∧ Bk R Ru .ready none W)
    (fun R pre W => ∃ c Ru, Ix c Ru pre W ∧ Bk R Ru .done (some c) W)
    ⟨fun {R s A B} ⟨Ru, hi, hb⟩ hc => ⟨Ru, hI.keep hi (hc.more fun k _ h hu => h (hb.1 k hu)), bkA hb hc⟩⟩
    ⟨fun {R s A B} ⟨c, Ru, hi, hb⟩ hc => ⟨c, Ru, (hIx c).keep hi (hc.more fun k _ h hu => h (hb.1 k hu)), bkA hb hc⟩⟩
    ?_ ⟨fun k => k < w.heap.size, hI.keep h0 (Ch.below hb1 |>.more fun _ _ h => h), fun k hk => by omega, fun k hk => by omega, by omega, by omega, hL1⟩).mono ?_
  · rintro R pre x W ⟨Ru, hi, hb⟩ hlen hsp
    obtain ⟨b1, b2, b3, b5, b6⟩ := hb
    have hlt : l < W.heap.size := (Array.getElem?_eq_some_iff.1 b6).1
    have hy := run_yield (P := P) (args := encs x) b6 (by rw [hrec]; exact hps x)
    rw [hrec] at hy
    refine ⟨fn, _, assign, body, hy, roundIn_of_wpIn hfn (wpIn_mono (hassign l Ru pre x W hi hlen hsp) ?_)⟩
    clear hy
    rintro e a' Wa hp
    cases e with
    | ret => exact hp.elim
    | exit id => exact hp.elim
    | goto t => exact hp.elim
    | panic c => exact hp.elim
    | outgrown => exact hp.elim
    | normal =>
    obtain ⟨Ra, hta, hax⟩ := hp
    have hza := hta.ch.size
    have hla : Wa.heap[l]? = some (.loop (rec .ready none)) := (hta.ch.block l hlt fun h => b5 h.1).trans b6
    have hRal : ¬ Ra l := fun h => by rcases hta.dn l h with h | h; exact b5 h; omega
    refine ⟨_, run_beginRound hla (by rw [hrec]), ?_⟩
    have hl2 : (Wa.putObj l (.loop { rec .ready none with state := .busy })).heap[l]? = some (.loop { rec .ready none with state := .busy }) := World.putObj_heap_same (by omega)
    have hc2 : Ch Wa (Wa.putObj l (.loop { rec .ready none with state := .busy })) (fun k => k = l) := Ch.putObj l _ rfl
    have hz2 : (Wa.putObj l (.loop { rec .ready none with state := .busy })).heap.size = Wa.heap.size := by unfold World.putObj; simp
    refine wpIn_mono (hbody l Ra pre x a' _ ⟨_, hl2⟩ (hAx _ _ _ _ _ _ hax (hc2.more fun k _ e => by rw [e]; exact hRal)) hlen hsp) ?_
    generalize Wa.putObj l (.loop { rec .ready none with state := .busy }) = W2 at *
    have fin : ∀ (jump : Option Code) (R' : Nat → Prop) (W3 : World), Turn D Ra R' W2 W3 →
        (Instr.endRound l jump).run P W3 = .ok (.bool jump.isNone) (W3.putObj l (.loop (rec (if jump.isNone then .ready else .done) jump))) ∧
        Ch W3 (W3.putObj l (.loop (rec (if jump.isNone then .ready else .done) jump))) (fun k => ¬ R' k) ∧
        Bk (fun k => R' k ∨ k = l) R' (if jump.isNone then .ready else .done) jump (W3.putObj l (.loop (rec (if jump.isNone then .ready else .done) jump))) ∧
        Turn D R (fun k => R' k ∨ k = l) W (W3.putObj l (.loop (rec (if jump.isNone then .ready else .done) jump))) := by
      intro jump R' W3 ht
      have hz3 := ht.ch.size
      have hl3 : W3.heap[l]? = some (.loop { rec .ready none with state := .busy }) := (ht.ch.block l (by omega) fun h => hRal h.1).trans hl2
      have hRl : ¬ R' l := fun h => by rcases ht.dn l h with h | h; exact hRal h; omega
      have hr := run_endRound (P := P) jump hl3
      have hz4 : ∀ o, (W3.putObj l o).heap.size = W3.heap.size := fun o => by unfold World.putObj; simp
      refine ⟨?_, Ch.putObj l _ hRl, ⟨fun k hk => .inl hk, fun k hk => hk, .inr rfl, hRl, World.putObj_heap_same (by omega)⟩, ?_⟩
      · rw [hrec] at hr ⊢; exact hr
      · refine ⟨⟨?_, ?_, ?_, ?_, ?_⟩, ?_, ?_⟩
        · exact ht.ch.os.trans (hc2.os.trans hta.ch.os)
        · exact ht.ch.tape.trans (hc2.tape.trans hta.ch.tape)
        · exact ht.ch.output.trans (hc2.output.trans hta.ch.output)
        · rw [hz4]; omega
        · intro k hk hn
          have hkl : k ≠ l := fun e => hn ⟨by rw [e]; exact b3, fun hd => by have := hD k hd; omega⟩
          have hnu : ¬ (Ru k ∧ ¬ D k) := fun h => hn ⟨b1 k h.1, h.2⟩
          have hna : ¬ (Ra k ∧ ¬ D k) := fun h => hnu ⟨by rcases hta.dn k h.1 with h1 | h1; exact h1; omega, h.2⟩
          refine (World.putObj_heap_other (by first | exact hkl | exact hkl.symm)).trans ((ht.ch.block k (by omega) hna).trans ((hc2.block k (by omega) hkl).trans (hta.ch.block k hk hnu)))
        · intro k hk
          rcases b2 k hk with h | h
          · exact .inl (ht.up k (hta.up k h))
          · exact .inr h
        · intro k hk
          rcases hk with h | h
          · rcases ht.dn k h with h2 | h2
            · rcases hta.dn k h2 with h3 | h3
              · exact .inl (b1 k h3)
              · exact .inr ⟨h3.1, by rw [hz4]; omega⟩
            · exact .inr ⟨by omega, by rw [hz4]; omega⟩
          · exact .inl (by rw [h]; exact b3)
    rintro e a3 W3 hp
    cases e with
    | normal =>
      obtain ⟨R', ht, hi3⟩ := hp
      obtain ⟨hr, hc, hb, htt⟩ := fin none R' W3 ht
      exact ⟨_, _, hr, .inl ⟨rfl, _, ⟨R', hI.keep hi3 hc, hb⟩, htt⟩⟩
    | ret =>
      obtain ⟨R', ht, hi3⟩ := hp
      obtain ⟨hr, hc, hb, htt⟩ := fin (some .ret) R' W3 ht
      exact ⟨_, _, hr, .inr ⟨rfl, _, ⟨.ret, R', (hIx _).keep hi3 hc, hb⟩, htt⟩⟩
    | exit id =>
      obtain ⟨R', ht, hi3⟩ := hp
      obtain ⟨hr, hc, hb, htt⟩ := fin (some (.exit id)) R' W3 ht
      exact ⟨_, _, hr, .inr ⟨rfl, _, ⟨.exit id, R', (hIx _).keep hi3 hc, hb⟩, htt⟩⟩
    | goto t =>
      obtain ⟨R', ht, hi3⟩ := hp
      obtain ⟨hr, hc, hb, htt⟩ := fin (some (.goto t)) R' W3 ht
      exact ⟨_, _, hr, .inr ⟨rfl, _, ⟨.goto t, R', (hIx _).keep hi3 hc, hb⟩, htt⟩⟩
    | panic ch => exact hp.elim
    | outgrown => exact hp.elim
  · rintro e W2 ⟨⟨v, rfl⟩, (⟨xs, R, hS, Ru, hi, hb⟩ | ⟨pre, R, hSp, c, Ru, hi, hb⟩)⟩
    · obtain ⟨b1, b2, b3, b5, b6⟩ := hb
      exact ⟨none, _, by have := run_endLoop (P := P) b6 (by rw [hrec]; simp); rw [hrec] at this; exact this, hdone Ru xs _ hS (hI.keep hi (Ch.putObj l _ b5))⟩
    · obtain ⟨b1, b2, b3, b5, b6⟩ := hb
      exact ⟨some c, _, by have := run_endLoop (P := P) b6 (by rw [hrec]; simp); rw [hrec] at this; exact this, hstop c Ru pre _ hSp ((hIx c).keep hi (Ch.putObj l _ b5))⟩
end Go.Proofs.Ytodnojpolkdlmaa
