/-
  Goes over an iterator that tells just the list.
-/
import Derived.Test.YtodnojpolkdlmaaBkM
namespace Go.Proofs.Ytodnojpolkdlmaa
set_option linter.unusedSimpArgs false
set_option linter.unusedVariables false
open Go.RowKit Go.IntWalk Go.Shelf
attribute [local go_sem] Oper.semAt_some

/-- what Goes keeps: its four blocks; so many have come -/
structure GoI (w : World) (b : Nat) (A : Option Addr) (cap : Nat) (L : List E) (stop : Int) (R : Nat → Prop) (k : Nat) (W : World) : Prop where
  bel : Below w.heap.size w W
  up : ∀ j, j < b + 4 → R j
  dn : ∀ j, R j → j < W.heap.size
  bl : Blk W b 40 #[.slice A L.length cap]
  bs : Blk W (b + 1) 3 #[.int .i64 stop]
  br : Blk W (b + 2) 4 #[.bool false]
  bn : Blk W (b + 3) 3 #[.int .i64 (k : Nat)]
theorem GoI.keep {w : World} {b : Nat} {A : Option Addr} {cap : Nat} {L : List E} {stop : Int} {R : Nat → Prop} {k : Nat} {W W' : World} (h : GoI w b A cap L stop R k W) (hb : w.heap.size ≤ b) (hc : Ch W W' (fun j => ¬ R j)) : GoI w b A cap L stop R k W' := by
  have hk : ∀ j, j < b + 4 → W'.heap[j]? = W.heap[j]? := fun j hj => hc.block j (h.dn j (h.up j hj)) fun hn => hn (h.up j hj)
  exact ⟨h.bel.trans (hc.toBelow h.bel.size fun j hj hn => hn (h.up j (by omega))), h.up, fun j hj => Nat.lt_of_lt_of_le (h.dn j hj) hc.size,
    (hk b (by omega)).trans h.bl, (hk (b + 1) (by omega)).trans h.bs, (hk (b + 2) (by omega)).trans h.br, (hk (b + 3) (by omega)).trans h.bn⟩
theorem results_cell1 {fn : Func} {p : Tmp} {ty : TypeId} (h : fn.results = #[.cell p ty]) (tmps : Array Value) (P : Program) (w : World) :
    (results fn tmps).run P w = ((asAddr (tmps.getD p undef)).run P w).andThen fun a w₁ => (loadVar ty a).run P w₁ := by
  simp only [results, h]
  simp [Sem.run_bind, Result.andThen]
theorem GoI.fin {w : World} {A : Option Addr} {cap : Nat} {L : List E} {stop : Int} {R : Nat → Prop} {k d : Nat} {W : World} {o : Obj} (h : GoI w w.heap.size A cap L stop R k W) (hd : w.heap.size ≤ d) (hRd : ¬ R d) (hdk : W.heap[d]? = some o) :
    (W.setCell ⟨w.heap.size + 2, 0, none⟩ (.bool true)).heap[d]? = some o ∧ ∀ o', ((W.setCell ⟨w.heap.size + 2, 0, none⟩ (.bool true)).putObj d o').cell? ⟨w.heap.size + 2, 0, none⟩ = some (.bool true) ∧ Below w.heap.size w ((W.setCell ⟨w.heap.size + 2, 0, none⟩ (.bool true)).putObj d o') := by
  have hne : d ≠ w.heap.size + 2 := fun e => hRd (by rw [e]; exact h.up _ (by omega))
  refine ⟨(Below.heap_setCell W _ _ d hne).trans hdk, fun o' => ⟨?_, ?_⟩⟩
  · have h1 : Blk (W.setCell ⟨w.heap.size + 2, 0, none⟩ (.bool true)) (w.heap.size + 2) 4 #[.bool true] := by
      have := h.br.set_ 0 (.bool true); simpa using this
    have h2 : Blk ((W.setCell ⟨w.heap.size + 2, 0, none⟩ (.bool true)).putObj d o') (w.heap.size + 2) 4 #[.bool true] := (World.putObj_heap_other (by omega)).trans h1
    exact h2.cell 0
  · refine h.bel.trans ⟨rfl, rfl, rfl, by unfold World.putObj; simp, fun j hj => ?_⟩
    exact (World.putObj_heap_other (by omega)).trans (Below.heap_setCell W _ _ j (by show j ≠ w.heap.size + 2; omega))
theorem GoI.up1 {w : World} {A : Option Addr} {cap : Nat} {L : List E} {stop : Int} {D R : Nat → Prop} {k : Nat} {W : World} (h : GoI w w.heap.size A cap L stop R k W) (hD : ∀ k, D k → k < w.heap.size) :
    Turn D R R W (W.setCell ⟨w.heap.size + 3, 0, none⟩ (.int .i64 ((k : Int) + 1))).drew ∧ GoI w w.heap.size A cap L stop R (k + 1) (W.setCell ⟨w.heap.size + 3, 0, none⟩ (.int .i64 ((k : Int) + 1))).drew := by
  have hk : ∀ j : Nat, j ≠ w.heap.size + 3 → (W.setCell ⟨w.heap.size + 3, 0, none⟩ (.int .i64 ((k : Int) + 1))).drew.heap[j]? = W.heap[j]? := fun j hj => Below.heap_setCell W _ _ j hj
  refine ⟨⟨⟨rfl, rfl, rfl, by simp, fun j hj hn => hk j fun e => hn ⟨by rw [e]; exact h.up _ (by omega), fun hd => by have := hD j hd; omega⟩⟩, fun _ h => h, fun _ h => .inl h⟩, ?_⟩
  refine ⟨h.bel.trans ⟨rfl, rfl, rfl, by simp, fun j hj => hk j (by omega)⟩, h.up, fun j hj => by simpa using h.dn j hj, (hk _ (by omega)).trans h.bl, (hk _ (by omega)).trans h.bs, (hk _ (by omega)).trans h.br, ?_⟩
  have := (h.bn.set_ 0 (.int .i64 ((k : Int) + 1))).drew
  simpa using this
set_option maxHeartbeats 4000000 in
set_option maxRecDepth 100000 in
theorem goes_any (gf : Nat) (caps : Array Value) (L : List E) (D : Nat → Prop) (A : Option Addr) (cap : Nat) (stop : Int) (w : World) (heg : ∀ args w, (callFunc gf args).run Try.prog w = .ok (.enter gf args) w)
    (hseq : ∀ W, Below w.heap.size w W → SeqX Fence.wide 9 Try.prog gf caps encE D (fun xs => xs = L) (fun pre => ∃ k, k ≤ L.length ∧ pre = L.take k) L.length W) (hD : ∀ k, D k → k < w.heap.size) (hll : L.length ≤ 1000000000) (hr : Rd w w.heap.size A (entsC L)) :
    Calls Try.prog 14 #[.func (.func gf) #[] caps, .slice A L.length cap, .int .i64 stop] w fun e w' => e = .returned (.bool true) ∧ Below w.heap.size w w' := by
  have hfe := fun w => func_eq (.func gf) #[] caps w
  refine (callsIn_wide (n := 10)).1 ?_
  refine callsIn_of_wp_marks Try.func14 rfl trivial ?_ rfl
  simp only [Try.ntmps14, List.size_toArray, List.length_cons, List.length_nil, Nat.reduceAdd, Nat.reduceSub, Array.replicate_succ, Array.replicate_zero, List.push_toArray, List.append_toArray, List.nil_append, List.cons_append]
  gi_wp2
  have hg0 : GoI w w.heap.size A cap L stop (fun k => k < w.heap.size + 4) 0 ((((w.alloc (.cells #[.slice A L.length cap] 40)).alloc (.cells #[.int .i64 stop] 3)).alloc (.cells #[.bool false] 4)).alloc (.cells #[.int .i64 0] 3)) := by
    refine ⟨(((Below.refl _ w).alloc (Nat.le_refl _) _).alloc (by simp) _ |>.alloc (by simp; omega) _).alloc (by simp; omega) _, fun j hj => hj, fun j hj => by simp; omega, ?_, ?_, ?_, ?_⟩
    · exact (((Blk.new w _ _).alloc _).alloc _).alloc _
    · exact ((blk_at (by simp)).alloc _).alloc _
    · exact (blk_at (by simp)).alloc _
    · exact blk_at (by simp)
  have hz0 : ((((w.alloc (.cells #[.slice A L.length cap] 40)).alloc (.cells #[.int .i64 stop] 3)).alloc (.cells #[.bool false] 4)).alloc (.cells #[.int .i64 0] 3)).heap.size = w.heap.size + 4 := by simp
  generalize (((w.alloc (.cells #[.slice A L.length cap] 40)).alloc (.cells #[.int .i64 stop] 3)).alloc (.cells #[.bool false] 4)).alloc (.cells #[.int .i64 0] 3) = w0 at *
  have e2 : w.heap.size + 1 + 1 = w.heap.size + 2 := rfl
  have e3 : w.heap.size + 2 + 1 = w.heap.size + 3 := rfl
  rw [e2, e3]
  refine wpIn_rangeX rfl (by decide) (gf := gf) (lb := caps) rfl trivial heg (encs := encE) (D := D) (S := fun xs => xs = L) (Sp := fun pre => ∃ k, k ≤ L.length ∧ pre = L.take k) (N := L.length)
    (fun W' hb' => hseq W' (hg0.bel.trans (hb'.mono hg0.bel.size))) (fun k hk => by have := hD k hk; omega) (fun _ => rfl)
    (fun R pre W => GoI w w.heap.size A cap L stop R pre.length W ∧ (pre.length = 0 ∨ (pre.length : Int) ≠ stop))
    (fun c R pre W => c = .exit 0 ∧ GoI w w.heap.size A cap L stop R pre.length W ∧ (pre.length : Int) = stop)
    ⟨fun {R s A B} h hc => ⟨h.1.keep (Nat.le_refl _) hc, h.2⟩⟩ (fun c => ⟨fun {R s A B} h hc => ⟨h.1, h.2.1.keep (Nat.le_refl _) hc, h.2.2⟩⟩) ⟨by rw [hz0]; exact hg0, .inl rfl⟩
    (fun pre x a' R W => ∃ xb : Nat, a' = { tmps := #[.func (.func gf) #[] caps, .slice A L.length cap, .int .i64 stop, undef, .pointer (some ⟨w.heap.size, 0, none⟩), .pointer (some ⟨w.heap.size + 1, 0, none⟩), .pointer (some ⟨w.heap.size + 2, 0, none⟩), .pointer (some ⟨w.heap.size + 3, 0, none⟩), .pointer (some ⟨xb, 0, none⟩), .func (.func gf) #[] caps, .bool false, .func (.func gf) #[] caps, .agg #[.string x.k.u, .int .u64 x.k.s, .int .i64 x.k.k, .string x.v], undef, undef, undef, undef, undef, undef, undef, undef, undef, undef, undef, undef, undef, undef, undef, undef, undef, undef, undef, undef, undef, undef, undef, undef, undef, undef], defers := [] } ∧ GoI w w.heap.size A cap L stop R pre.length W ∧ R xb ∧ Blk W xb 47 #[.string x.k.u, .int .u64 x.k.s, .int .i64 x.k.k, .string x.v]) ?hax ?assign ?body ?done ?stop
  case hax =>
    rintro pre x a' R A' B' ⟨xb, h1, h2, h3, h4⟩ hc
    exact ⟨xb, h1, h2.keep (Nat.le_refl _) hc, h3, (hc.block xb h4.lt fun hn => hn h3).trans h4⟩
  case assign =>
    rintro l' R pre x W ⟨hi, hne⟩ hlen hsp
    obtain ⟨⟨u, s, q⟩, v⟩ := x
    unfold encE
    dsimp only
    have hc1 : Ch W (W.alloc (.cells #[.string u, .int .u64 s, .int .i64 q, .string v] 47)) (fun k => ¬ R k) := Ch.below ((Below.refl _ _).alloc (Nat.le_refl _) _)
    have HI2 := Lib.hid (hi.keep (Nat.le_refl _) hc1)
    have HX := Lib.hid (Blk.new W 47 #[.string u, .int .u64 s, .int .i64 q, .string v])
    have hzx : (W.alloc (.cells #[.string u, .int .u64 s, .int .i64 q, .string v] 47)).heap.size = W.heap.size + 1 := by simp
    have HI := Lib.hid hi
    clear hi hc1
    gi_wp2
    refine ⟨fun k => R k ∨ k = W.heap.size, ⟨Ch.below ((Below.refl _ _).alloc (Nat.le_refl _) _), fun k hk => .inl hk, fun k hk => hk.elim .inl (fun e => .inr ⟨by omega, by omega⟩)⟩, ?_, .inr rfl, HX.out⟩
    exact ⟨HI2.out.bel, fun j hj => .inl (HI2.out.up j (by omega)), fun j hj => by rcases hj with hj | hj; (have := HI.out.dn j hj; omega); omega, HI2.out.bl, HI2.out.bs, HI2.out.br, HI2.out.bn⟩
  case body =>
    rintro l' R pre x a' W hl' ⟨xb, rfl, hi, hrx, hxk⟩ hlen ⟨k', hk', hke⟩
    have hkl := congrArg List.length hke
    simp only [List.length_append, List.length_cons, List.length_nil, List.length_take] at hkl
    have hx : L[pre.length] = x := by
      have h1 := congrArg (fun z => z[pre.length]?) hke
      simp only [List.getElem?_append_right (Nat.le_refl _), Nat.sub_self, List.getElem?_cons_zero, List.getElem?_take] at h1
      rw [if_pos (by omega), List.getElem?_eq_getElem hlen] at h1
      injection h1 with h1; exact h1.symm
    obtain ⟨eb, eo, rfl, heb, t0, t1, t2, t3⟩ := ent_at hr hlen
    rw [hx] at t0 t1 t2 t3
    generalize hk : pre.length = k at *
    obtain ⟨⟨u, s, q⟩, v⟩ := x
    dsimp only at t0 t1 t2 t3 hxk ⊢
    have u0 := (hi.bel.cell (p := ⟨eb, eo + k * 4, none⟩) heb).trans t0
    have u1 := (hi.bel.cell (p := ⟨eb, eo + k * 4 + 1, none⟩) heb).trans t1
    have u2 := (hi.bel.cell (p := ⟨eb, eo + k * 4 + 2, none⟩) heb).trans t2
    have u3 := (hi.bel.cell (p := ⟨eb, eo + k * 4 + 3, none⟩) heb).trans t3
    have x0 : W.cell? ⟨xb, 0, none⟩ = some (.string u) := hxk.cell 0
    have x1 : W.cell? ⟨xb, 1, none⟩ = some (.int .u64 s) := hxk.cell 1
    have x2 : W.cell? ⟨xb, 2, none⟩ = some (.int .i64 q) := hxk.cell 2
    have x3 : W.cell? ⟨xb, 3, none⟩ = some (.string v) := hxk.cell 3
    have n0 : W.cell? ⟨w.heap.size + 3, 0, none⟩ = some (.int .i64 (k : Nat)) := hi.bn.cell 0
    have l0 : W.cell? ⟨w.heap.size, 0, none⟩ = some (.slice (some ⟨eb, eo, none⟩) L.length cap) := hi.bl.cell 0
    have s0 : W.cell? ⟨w.heap.size + 1, 0, none⟩ = some (.int .i64 stop) := hi.bs.cell 0
    have fn := hi.bn.frozen 0
    have hki : (0 : Int) ≤ (k : Int) ∧ (k : Int) < (L.length : Int) := by omega
    have hd : decide (L.length ≤ k) = false := by simp; omega
    have HI := Lib.hid hi
    have HRX := Lib.hid hrx
    have HXK := Lib.hid hxk
    clear hrx hxk t0 t1 t2 t3 hx hke hkl
    gi_wp2
    refine wpIn_round_held (S := fun w' => w' = W.drew) (by kernel_rfl) (by kernel_rfl) (fun ⟨_, _, h⟩ => h) rfl (fun hHeld => ?_)
    refine wpAnyH_take (i := 0) (v := ?_) rfl (by kernel_rfl) (by kernel_rfl) (by kernel_rfl) (fun _ _ _ h => h) (Or.inl ⟨by rfl, ?_⟩) (by assumption) ?_
    rotate_left
    · (intro w hSw; subst hSw; go_simp; try (with_reducible rfl))
    try simp only [Act.put, List.getElem_toArray, List.getElem_cons_succ, List.getElem_cons_zero, List.setIfInBounds_toArray, List.set_cons_zero, List.set_cons_succ]
    refine wpAnyH_take (i := 1) (v := ?_) rfl (by kernel_rfl) (by kernel_rfl) (by kernel_rfl) (fun _ _ _ h => h) (Or.inl ⟨by rfl, ?_⟩) (by assumption) ?_
    rotate_left
    · (intro w hSw; subst hSw; go_simp; try (with_reducible rfl))
    try simp only [Act.put, List.getElem_toArray, List.getElem_cons_succ, List.getElem_cons_zero, List.setIfInBounds_toArray, List.set_cons_zero, List.set_cons_succ]
    refine wpAnyH_take (i := 2) (v := ?_) rfl (by kernel_rfl) (by kernel_rfl) (by kernel_rfl) (fun _ _ _ h => h) (Or.inl ⟨by rfl, ?_⟩) (by assumption) ?_
    rotate_left
    · (intro w hSw; subst hSw; go_simp; try (with_reducible rfl))
    try simp only [Act.put, List.getElem_toArray, List.getElem_cons_succ, List.getElem_cons_zero, List.setIfInBounds_toArray, List.set_cons_zero, List.set_cons_succ]
    refine wpAnyH_take (i := 3) (v := ?_) rfl (by kernel_rfl) (by kernel_rfl) (by kernel_rfl) (fun _ _ _ h => h) (Or.inl ⟨by rfl, ?_⟩) (by assumption) ?_
    rotate_left
    · (intro w hSw; subst hSw; go_simp; try (with_reducible rfl))
    try simp only [Act.put, List.getElem_toArray, List.getElem_cons_succ, List.getElem_cons_zero, List.setIfInBounds_toArray, List.set_cons_zero, List.set_cons_succ]
    refine wpAnyH_take (i := 4) (v := ?_) rfl (by kernel_rfl) (by kernel_rfl) (by kernel_rfl) (fun _ _ _ h => h) (Or.inl ⟨by rfl, ?_⟩) (by assumption) ?_
    rotate_left
    · (intro w hSw; subst hSw; go_simp; try (with_reducible rfl))
    try simp only [Act.put, List.getElem_toArray, List.getElem_cons_succ, List.getElem_cons_zero, List.setIfInBounds_toArray, List.set_cons_zero, List.set_cons_succ]
    refine wpAnyH_take (i := 5) (v := ?_) rfl (by kernel_rfl) (by kernel_rfl) (by kernel_rfl) (fun _ _ _ h => h) (Or.inl ⟨by rfl, ?_⟩) (by assumption) ?_
    rotate_left
    · (intro w hSw; subst hSw; go_simp; try (with_reducible rfl))
    try simp only [Act.put, List.getElem_toArray, List.getElem_cons_succ, List.getElem_cons_zero, List.setIfInBounds_toArray, List.set_cons_zero, List.set_cons_succ]
    refine wpAnyH_take (i := 6) (v := ?_) rfl (by kernel_rfl) (by kernel_rfl) (by kernel_rfl) (fun _ _ _ h => h) (Or.inl ⟨by rfl, ?_⟩) (by assumption) ?_
    rotate_left
    · (intro w hSw; subst hSw; go_simp; try (with_reducible rfl))
    try simp only [Act.put, List.getElem_toArray, List.getElem_cons_succ, List.getElem_cons_zero, List.setIfInBounds_toArray, List.set_cons_zero, List.set_cons_succ]
    refine wpAnyH_take (i := 7) (v := ?_) rfl (by kernel_rfl) (by kernel_rfl) (by kernel_rfl) (fun _ _ _ h => h) (Or.inl ⟨by rfl, ?_⟩) (by assumption) ?_
    rotate_left
    · (intro w hSw; subst hSw; go_simp; try (with_reducible rfl))
    try simp only [Act.put, List.getElem_toArray, List.getElem_cons_succ, List.getElem_cons_zero, List.setIfInBounds_toArray, List.set_cons_zero, List.set_cons_succ]
    refine wpAnyH_take (i := 8) (v := ?_) rfl (by kernel_rfl) (by kernel_rfl) (by kernel_rfl) (fun _ _ _ h => h) (Or.inl ⟨by rfl, ?_⟩) (by assumption) ?_
    rotate_left
    · (intro w hSw; subst hSw; go_simp; try (with_reducible rfl))
    try simp only [Act.put, List.getElem_toArray, List.getElem_cons_succ, List.getElem_cons_zero, List.setIfInBounds_toArray, List.set_cons_zero, List.set_cons_succ]
    refine wpAnyH_take (i := 9) (v := ?_) rfl (by kernel_rfl) (by kernel_rfl) (by kernel_rfl) (fun _ _ _ h => h) (Or.inl ⟨by rfl, ?_⟩) (by assumption) ?_
    rotate_left
    · (intro w hSw; subst hSw; go_simp; try (with_reducible rfl))
    try simp only [Act.put, List.getElem_toArray, List.getElem_cons_succ, List.getElem_cons_zero, List.setIfInBounds_toArray, List.set_cons_zero, List.set_cons_succ]
    refine wpAnyH_take (i := 10) (v := ?_) rfl (by kernel_rfl) (by kernel_rfl) (by kernel_rfl) (fun _ _ _ h => h) (Or.inl ⟨by rfl, ?_⟩) (by assumption) ?_
    rotate_left
    · (intro w hSw; subst hSw; go_simp; try (with_reducible rfl))
    try simp only [Act.put, List.getElem_toArray, List.getElem_cons_succ, List.getElem_cons_zero, List.setIfInBounds_toArray, List.set_cons_zero, List.set_cons_succ]
    refine wpAnyH_take (i := 11) (v := ?_) rfl (by kernel_rfl) (by kernel_rfl) (by kernel_rfl) (fun _ _ _ h => h) (Or.inl ⟨by rfl, ?_⟩) (by assumption) ?_
    rotate_left
    · (intro w hSw; subst hSw; go_simp; try (with_reducible rfl))
    try simp only [Act.put, List.getElem_toArray, List.getElem_cons_succ, List.getElem_cons_zero, List.setIfInBounds_toArray, List.set_cons_zero, List.set_cons_succ]
    refine wpAnyH_done (by kernel_rfl) ?_ _
    have hup := hi.up1 (D := D) hD
    have HUP := Lib.hid hup
    clear hup hi u0 u1 u2 u3 x0 x1 x2 x3 l0
    have hlk : ((pre ++ [({ k := { u := u, s := s, k := q }, v := v } : E)]).length : Int) = (k : Int) + 1 := by rw [List.length_append]; simp; omega
    have hlk2 : (pre ++ [({ k := { u := u, s := s, k := q }, v := v } : E)]).length = k + 1 := by rw [List.length_append]; simp; omega
    have HLK := Lib.hid (And.intro hlk hlk2)
    clear hlk hlk2
    by_cases hst : (k : Int) + 1 = stop
    · have hs1 : ((k : Int) + 1 == stop) = true := by simpa using hst
      have HST := Lib.hid hst
      clear hst
      gi_wp2
      have hup := HUP.out
      refine ⟨R, hup.1, rfl, ?_, ?_⟩
      · rw [HLK.out.2]; exact hup.2
      · rw [HLK.out.1]; exact HST.out
    · have hs1 : ((k : Int) + 1 == stop) = false := by simpa using hst
      have HST := Lib.hid hst
      clear hst
      gi_wp2
      have hup := HUP.out
      refine ⟨R, hup.1, ?_, .inr ?_⟩
      · rw [HLK.out.2]; exact hup.2
      · rw [HLK.out.1]; exact HST.out
  case done =>
    rintro d R xs W hd hRd rfl ⟨hi, hne⟩ hdk
    have n0 : W.cell? ⟨w.heap.size + 3, 0, none⟩ = some (.int .i64 (xs.length : Nat)) := hi.bn.cell 0
    have l0 : W.cell? ⟨w.heap.size, 0, none⟩ = some (.slice A xs.length cap) := hi.bl.cell 0
    have r0 : W.cell? ⟨w.heap.size + 2, 0, none⟩ = some (.bool false) := hi.br.cell 0
    have fr := hi.br.frozen 0
    have HF := Lib.hid (hi.fin (by have := hi.bel.size; omega) hRd hdk)
    clear hi hdk hne
    gi_wp2
    refine ⟨by simp, .inl ⟨_, _, rfl, run_takeDeferred HF.out.1, ?_⟩⟩
    obtain ⟨hcc, hbb⟩ := HF.out.2 (.deferred none)
    refine ⟨.bool true, ?_, rfl, hbb⟩
    rw [results_cell1 rfl]
    go_simp
  case stop =>
    rintro d c R pre W hd hRd ⟨k, hk, hke⟩ ⟨rfl, hi, hst⟩ hdk
    have n0 : W.cell? ⟨w.heap.size + 3, 0, none⟩ = some (.int .i64 (pre.length : Nat)) := hi.bn.cell 0
    have l0 : W.cell? ⟨w.heap.size, 0, none⟩ = some (.slice A L.length cap) := hi.bl.cell 0
    have r0 : W.cell? ⟨w.heap.size + 2, 0, none⟩ = some (.bool false) := hi.br.cell 0
    have s0 : W.cell? ⟨w.heap.size + 1, 0, none⟩ = some (.int .i64 stop) := hi.bs.cell 0
    have fr := hi.br.frozen 0
    have HF := Lib.hid (hi.fin (by have := hi.bel.size; omega) hRd hdk)
    clear hi hdk hke
    rw [← hst] at s0
    by_cases hpl : pre.length = L.length
    · have hb1 : ((pre.length : Int) == (L.length : Int)) = true := by rw [hpl]; simp
      gi_wp2
      refine ⟨by simp, .inl ⟨_, _, rfl, run_takeDeferred HF.out.1, ?_⟩⟩
      obtain ⟨hcc, hbb⟩ := HF.out.2 (.deferred none)
      refine ⟨.bool true, ?_, rfl, hbb⟩
      rw [results_cell1 rfl]
      go_simp
    · have hb1 : ((pre.length : Int) == (L.length : Int)) = false := by rw [beq_eq_false_iff_ne]; omega
      gi_wp2
      refine ⟨by simp, .inl ⟨_, _, rfl, run_takeDeferred HF.out.1, ?_⟩⟩
      obtain ⟨hcc, hbb⟩ := HF.out.2 (.deferred none)
      refine ⟨.bool true, ?_, rfl, hbb⟩
      rw [results_cell1 rfl]
      go_simp
end Go.Proofs.Ytodnojpolkdlmaa
