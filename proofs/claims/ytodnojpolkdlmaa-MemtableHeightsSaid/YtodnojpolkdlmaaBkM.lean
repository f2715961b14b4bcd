/-
  Back, as an iterator.
-/
import Derived.Test.YtodnojpolkdlmaaBackS
import Derived.Test.YtodnojpolkdlmaaRnd
namespace Go.Proofs.Ytodnojpolkdlmaa
set_option linter.unusedSimpArgs false
set_option linter.unusedVariables false
open Go.RowKit Go.IntWalk Go.Shelf
attribute [local go_sem] Oper.semAt_some

/-- where a loop over an iterator of its own stands within an iterator: Ro the outer caller's blocks -/
def InI (D : Nat → Prop) (yb : Nat) (yo : Obj) (J : Inv E) : Inv (Int × E) := fun R pre A =>
  ∃ Ro, J Ro (pre.map (·.2)) A ∧ (∀ k, Ro k → R k) ∧ ¬ Ro yb ∧ (∀ k, D k → ¬ Ro k ∧ k < A.heap.size) ∧ R yb ∧ A.heap[yb]? = some yo ∧ ∀ k, R k → k < A.heap.size
theorem InI.abide {D : Nat → Prop} {yb : Nat} {yo : Obj} {J : Inv E} (hJ : Abide J) : Abide (InI D yb yo J) := by
  refine ⟨fun {R s A B} h hc => ?_⟩
  obtain ⟨Ro, h1, h2, h3, h4, h5, h6, h7⟩ := h
  exact ⟨Ro, hJ.keep h1 (hc.more fun k _ hn hr => hn (h2 k hr)), h2, h3, fun k hk => ⟨(h4 k hk).1, Nat.lt_of_lt_of_le (h4 k hk).2 hc.size⟩, h5, (hc.block yb (h7 yb h5) fun hn => hn h5).trans h6, fun k hk => Nat.lt_of_lt_of_le (h7 k hk) hc.size⟩
theorem InI.up {D : Nat → Prop} {yb : Nat} {yo : Obj} {J : Inv E} {R R' : Nat → Prop} {pre : List (Int × E)} {A : World} (h : InI D yb yo J R pre A) (hR : ∀ k, R k → R' k) (hl : ∀ k, R' k → k < A.heap.size) : InI D yb yo J R' pre A := by
  obtain ⟨Ro, h1, h2, h3, h4, h5, h6, h7⟩ := h
  exact ⟨Ro, h1, fun k hk => hR k (h2 k hk), h3, h4, hR _ h5, h6, hl⟩
theorem InI.turn {D : Nat → Prop} {R Ro R' : Nat → Prop} {A W3 : World} (hro : ∀ k, Ro k → R k) (hrod : ∀ k, D k → ¬ Ro k ∧ k < A.heap.size) (ht : Turn (fun _ => False) Ro R' A W3) :
    Turn D R (fun k => R k ∨ R' k) A W3 := by
  refine ⟨ht.ch.more fun k _ hk => ⟨hro k hk.1, fun hd => (hrod k hd).1 hk.1⟩, fun k hk => .inl hk, fun k hk => ?_⟩
  rcases hk with hk | hk
  · exact .inl hk
  · rcases ht.dn k hk with h1 | h1
    · exact .inl (hro k h1)
    · exact .inr h1
def InX (Jx : Inv E) : Code → Inv (Int × E) := fun c R pre A => c = .ret ∧ ∃ Ro, Jx Ro (pre.map (·.2)) A ∧ ∀ k, Ro k → R k
theorem InX.abide {Jx : Inv E} (hJ : Abide Jx) (c : Code) : Abide (InX Jx c) := by
  refine ⟨fun {R s A B} h hc => ?_⟩
  obtain ⟨h0, Ro, h1, h2⟩ := h
  exact ⟨h0, Ro, hJ.keep h1 (hc.more fun k _ hn hr => hn (h2 k hr)), h2⟩
set_option maxHeartbeats 4000000 in
set_option maxRecDepth 100000 in
theorem back1_seq (n : Nat) (hn : 4 ≤ n) {W : World} {g : Nat} {how : Int} {hl : List UInt8} {S : TS} {F H : List Nat} (ht : Tab W g how hl S F H) (hsn : S.n ≤ 1000000) (bt bk : Nat) (f : K)
    (hbt : W.cell? ⟨bt, 0, none⟩ = some (.pointer (some ⟨g, 0, none⟩))) (hbk : W.cell? ⟨bk, 0, none⟩ = some (.string f.u) ∧ W.cell? ⟨bk, 1, none⟩ = some (.int .u64 f.s) ∧ W.cell? ⟨bk, 2, none⟩ = some (.int .i64 f.k)) :
    SeqX Fence.wide n Try.prog 34 #[.pointer (some ⟨bt, 0, none⟩), .pointer (some ⟨bk, 0, none⟩)] encE (fun _ => False) (fun xs => xs = (S.l.filter (holdsB how f)).reverse) (fun pre => ∃ k, k ≤ (S.l.filter (holdsB how f)).length ∧ pre = (S.l.filter (holdsB how f)).reverse.take k) (S.l.filter (holdsB how f)).length W := by
  intro l J Jx hJ hJx hY h0
  have hn1 : 1 ≤ n := by omega
  have hb0 : Below W.heap.size W (W.alloc (.cells #[.func (.yield l) #[] #[]] 79)) := (Below.refl _ _).alloc (Nat.le_refl _) _
  have hbtl := World.block_lt_of_cell? _ _ hbt
  have hbkl := World.block_lt_of_cell? _ _ hbk.1
  have hbt2 := (hb0.cell (p := ⟨bt, 0, none⟩) hbtl).trans hbt
  have hNow := mNow_back (ht.below hb0) hsn bt bk f hbt2 ⟨(hb0.cell (p := ⟨bk, 0, none⟩) hbkl).trans hbk.1, (hb0.cell (p := ⟨bk, 1, none⟩) hbkl).trans hbk.2.1, (hb0.cell (p := ⟨bk, 2, none⟩) hbkl).trans hbk.2.2⟩
  have hLl : (S.l.filter (holdsB how f)).length ≤ 1000000 := Nat.le_trans (List.length_filter_le _ _) (by have : S.n = S.l.length + S.t.length := rfl; omega)
  generalize S.l.filter (holdsB how f) = L at *
  have HNOW := Lib.hid hNow
  have HB0 := Lib.hid hb0
  have HYB := Lib.hid (Blk.new W 79 #[.func (.yield l) #[] #[]])
  clear hNow ht hbk hbt hb0
  refine callsIn_of_wp_marks Try.func34 rfl trivial ?_ rfl
  simp only [Try.ntmps34, List.size_toArray, List.length_cons, List.length_nil, Nat.reduceAdd, Nat.reduceSub, Array.replicate_succ, Array.replicate_zero, List.push_toArray, List.append_toArray, List.nil_append, List.cons_append]
  gi_wp2_with (first | (refine ⟨trivial, ?_⟩; gi_at_call 31; refine (callsIn_wide.2 HNOW.out).mono ?_; rintro e w1 ⟨v, rfl, hb1, ho1⟩; obtain ⟨A, c, rfl, hc1, hc2⟩ := ho1.slice_) | (refine ⟨trivial, ?_⟩; gi_at_call 35; refine (callsIn_wide.2 (backE_any _ _ _ _)).mono ?_; rintro e w2 ⟨rfl, hw2⟩))
  have hb2 : Below w1.heap.size w1 (w1.alloc (.cells #[.slice A L.length c] 40)) := (Below.refl _ _).alloc (Nat.le_refl _) _
  have hcx : (w1.alloc (.cells #[.slice A L.length c] 40)).cell? ⟨w1.heap.size, 0, none⟩ = some (.slice A L.length c) := (Blk.new w1 _ _).cell 0
  have hyb : (w1.alloc (.cells #[.slice A L.length c] 40)).heap[W.heap.size]? = some (.cells #[.func (.yield l) #[] #[]] 79 (0, 0)) := (HYB.out.below hb1 (by simp)).below hb2 (by have := hb1.size; simp at this; omega)
  have hrd := ho1.rd'.next hb2
  have hz2 : (w1.alloc (.cells #[.slice A L.length c] 40)).heap.size = w1.heap.size + 1 := by simp
  have hbW : Below W.heap.size W (w1.alloc (.cells #[.slice A L.length c] 40)) := (HB0.out.trans (hb1.mono HB0.out.size)).trans (hb2.mono (by have := hb1.size; simp at this; omega))
  have hzb : W.heap.size < w1.heap.size := by have := hb1.size; simp at this; omega
  have hAb : ∀ a, A = some a → W.heap.size < a.block ∧ a.block < w1.heap.size := fun a ha => by
    have := ho1.lt a.block (by rw [ha]; rfl)
    have h2 := this.1; simp at h2; omega
  subst hw2
  generalize w1.alloc (.cells #[.slice A L.length c] 40) = w2 at *
  refine wpIn_rangeX rfl hn1 (gf := 53) (lb := #[.pointer (some ⟨w1.heap.size, 0, none⟩)]) rfl trivial (enters_of Try.func53 (by kernel_rfl) rfl)
    (encs := encBE) (D := dataB w1.heap.size A) (S := fun xs => xs = backsE L L.length) (Sp := fun pre => ∃ k, k ≤ L.length ∧ pre = backsE L k) (N := L.length)
    (fun W' hb' => backE1_seq (n - 1) (by omega) w1.heap.size A c L (by omega) ((hb'.cell (p := ⟨w1.heap.size, 0, none⟩) (by show w1.heap.size < w2.heap.size; omega)).trans hcx) (hrd.next hb'))
    ?hD (fun _ => rfl) (InI (dataB w1.heap.size A) W.heap.size (.cells #[.func (.yield l) #[] #[]] 79 (0, 0)) J) (InX Jx) (InI.abide hJ) (fun c => InX.abide hJx c) ?h0
    (fun pre x a' R A' => ∃ xb : Nat, a' = { tmps := #[.func (.yield l) #[] #[], .pointer (some ⟨bt, 0, none⟩), .pointer (some ⟨bk, 0, none⟩), .pointer (some ⟨W.heap.size, 0, none⟩), undef, .pointer (some ⟨xb, 0, none⟩), .pointer (some ⟨g, 0, none⟩), .func (.func 36) #[] #[.pointer (some ⟨bt, 0, none⟩), .pointer (some ⟨bk, 0, none⟩)], .slice A L.length c,
      .func (.func 53) #[] #[.pointer (some ⟨w1.heap.size, 0, none⟩)], .int .i64 x.1, .agg #[.string x.2.k.u, .int .u64 x.2.k.s, .int .i64 x.2.k.k, .string x.2.v], undef, undef, undef, undef], defers := [] } ∧
      InI (dataB w1.heap.size A) W.heap.size (.cells #[.func (.yield l) #[] #[]] 79 (0, 0)) J R pre A' ∧ R xb ∧ Blk A' xb 47 #[.string x.2.k.u, .int .u64 x.2.k.s, .int .i64 x.2.k.k, .string x.2.v]) ?hax ?assign ?body ?done ?stop
  case hD =>
    rintro k (rfl | ⟨a, ha, rfl⟩)
    · omega
    · have := hAb a ha; omega
  case h0 =>
    exact ⟨fun k => k < W.heap.size, hJ.keep h0 (Ch.below hbW), fun k hk => by omega, by omega, (by
      rintro k (rfl | ⟨a, ha, rfl⟩)
      · exact ⟨by omega, by omega⟩
      · have := hAb a ha; exact ⟨by omega, by omega⟩), by omega, hyb, fun k hk => hk⟩
  case hax =>
    rintro pre x a' R A' B' ⟨xb, h1, h2, h3, h4⟩ hc
    exact ⟨xb, h1, (InI.abide hJ).keep h2 hc, h3, (hc.block xb h4.lt fun hn => hn h3).trans h4⟩
  case assign =>
    intro l' R pre x A' hi hlen hsp
    obtain ⟨i, ⟨⟨u, s, q⟩, v⟩⟩ := x
    unfold encBE
    dsimp only
    have hc1 : Ch A' (A'.alloc (.cells #[.string u, .int .u64 s, .int .i64 q, .string v] 47)) (fun k => ¬ R k) := Ch.below ((Below.refl _ _).alloc (Nat.le_refl _) _)
    have hi2 := (InI.abide hJ).keep hi hc1
    have hx := Blk.new A' 47 #[.string u, .int .u64 s, .int .i64 q, .string v]
    have hzx : (A'.alloc (.cells #[.string u, .int .u64 s, .int .i64 q, .string v] 47)).heap.size = A'.heap.size + 1 := by simp
    have HI2 := Lib.hid hi2
    have HX := Lib.hid hx
    have HLT : Hid (∀ k, R k → k < A'.heap.size) := (by obtain ⟨_, _, _, _, _, _, _, h⟩ := hi; exact h)
    clear hi2 hx hc1 hi hcx hyb hrd
    gi_wp2
    have hlt := fun k hk => HLT.out k hk
    exact ⟨fun k => R k ∨ k = A'.heap.size, ⟨Ch.below ((Below.refl _ _).alloc (Nat.le_refl _) _), fun k hk => .inl hk, fun k hk => hk.elim .inl (fun e => .inr ⟨by omega, by omega⟩)⟩, A'.heap.size, rfl,
      HI2.out.up (fun k hk => .inl hk) (fun k hk => by rcases hk with hk | hk; (have := hlt k hk; omega); omega), .inr rfl, HX.out⟩
  case body =>
    intro l' R pre x a' A' hl' hax hlen hsp
    obtain ⟨xb, rfl, ⟨Ro, hj, hro, hroy, hrod, hry, hyo, hrl⟩, hrx, hxk⟩ := hax
    obtain ⟨i, ⟨⟨u, s, q⟩, v⟩⟩ := x
    dsimp only at hxk ⊢
    have hY1 := hY Ro (pre.map (·.2)) ⟨⟨u, s, q⟩, v⟩ A' hj (by rw [List.length_map]; exact hlen) (by
      obtain ⟨k, hk, hke⟩ := hsp
      have := congrArg (List.map (·.2)) hke
      rw [backsE_snd, List.map_append] at this
      exact ⟨k, hk, this⟩)
    unfold encE at hY1
    dsimp only at hY1
    obtain ⟨fn, tmps, assign, body, hy, hR⟩ := hY1
    have x0 : A'.cell? ⟨xb, 0, none⟩ = some (.string u) := hxk.cell 0
    have x1 : A'.cell? ⟨xb, 1, none⟩ = some (.int .u64 s) := hxk.cell 1
    have x2 : A'.cell? ⟨xb, 2, none⟩ = some (.int .i64 q) := hxk.cell 2
    have x3 : A'.cell? ⟨xb, 3, none⟩ = some (.string v) := hxk.cell 3
    have y0 : A'.cell? ⟨W.heap.size, 0, none⟩ = some (.func (.yield l) #[] #[]) := (show Blk A' W.heap.size 79 #[.func (.yield l) #[] #[]] from hyo).cell 0
    have HRR := Lib.hid hR
    clear hR hj hcx hyb hrd
    gi_wp2
    refine ⟨fun _ => by omega, (roundIn_wide HRR.out).mono ?_⟩
    rintro e W3 (⟨rfl, R', hj3, ht3⟩ | ⟨rfl, R', hj3, ht3⟩)
    · have hz3 := ht3.ch.size
      have hyl := hrl _ hry
      have hin : InI (dataB w1.heap.size A) W.heap.size (.cells #[.func (.yield l) #[] #[]] 79 (0, 0)) J (fun k => R k ∨ R' k) (pre ++ [(i, ⟨⟨u, s, q⟩, v⟩)]) W3 :=
        ⟨R', by rw [List.map_append]; exact hj3, fun k hk => .inr hk, ht3.not hyl hroy, fun k hk => ⟨ht3.not (hrod k hk).2 (hrod k hk).1, by have := (hrod k hk).2; omega⟩, .inl hry, (ht3.ch.block _ hyl fun h => hroy h.1).trans hyo, fun k hk => by
          rcases hk with hk | hk
          · have := hrl k hk; omega
          · rcases ht3.dn k hk with h1 | h1
            · have := hrl k (hro k h1); omega
            · exact h1.2⟩
      have HIN := Lib.hid hin
      have HTT := Lib.hid (InI.turn hro hrod ht3)
      clear hin hj3 ht3
      gi_wp2
      exact ⟨_, HTT.out, HIN.out⟩
    · have HTT := Lib.hid (InI.turn hro hrod ht3)
      have HJ3 := Lib.hid hj3
      clear hj3 ht3
      gi_wp2
      exact ⟨_, HTT.out, rfl, R', by rw [List.map_append]; exact HJ3.out, fun k hk => .inr hk⟩
  case done =>
    rintro d R xs Wd hd hRd rfl ⟨Ro, hj, hro, -⟩ hdk
    rw [backsE_snd] at hj
    have e : L.reverse.take L.length = L.reverse := List.take_of_length_le (by simp)
    rw [e] at hj
    gi_wp2
    refine ⟨by simp, .inl ⟨_, _, rfl, run_takeDeferred hdk, ?_⟩⟩
    exact ⟨_, results_none rfl _ _ _, ⟨_, rfl⟩, .inl ⟨_, Ro, rfl, hJ.keep hj (Ch.putObj d _ fun h => hRd (hro d h))⟩⟩
  case stop =>
    rintro d c R pre Wd hd hRd ⟨k, hk, rfl⟩ ⟨rfl, Ro, hj, hro⟩ hdk
    rw [backsE_snd] at hj
    gi_wp2
    refine ⟨by simp, .inl ⟨_, _, rfl, run_takeDeferred hdk, ?_⟩⟩
    exact ⟨_, results_none rfl _ _ _, ⟨_, rfl⟩, .inr ⟨_, Ro, ⟨k, hk, rfl⟩, hJx.keep hj (Ch.putObj d _ fun h => hRd (hro d h))⟩⟩
end Go.Proofs.Ytodnojpolkdlmaa
