/-
  The law MemtableHeights, walked.
-/
import Derived.Test.YtodnojpolkdlmaaHtB
import Derived.Test.YtodnojpolkdlmaaLawS
namespace Go.Proofs.Ytodnojpolkdlmaa
set_option linter.unusedSimpArgs false
set_option linter.unusedVariables false
open Go.RowKit Go.IntWalk Go.Shelf
attribute [local go_sem ↓] Go.wp_at_zero Go.wp_at_succ
attribute [local go_sem] Oper.semAt_some

/-- a post that takes no panic -/
def calm (Q : Exit → Act → World → Prop) : Exit → Act → World → Prop
  | .panic _, _, _ => False
  | .outgrown, _, _ => False
  | e, a, w => Q e a w
theorem calm_out {Q : Exit → Act → World → Prop} (e : Exit) (a : Act) (w : World) (h : calm Q e a w) : Q e a w := by
  cases e <;> first | exact h.elim | exact h
theorem below_putObj {B : Nat} {w w' : World} (h : Below B w w') (l : Nat) (o : Obj) (hl : B ≤ l) : Below B w (w'.putObj l o) :=
  h.trans ⟨rfl, rfl, rfl, by unfold World.putObj; simp, fun j hj => World.putObj_heap_other (by omega)⟩
theorem act_named {F : Fence} {n : Nat} {P : Program} {c : Code} {Q : Exit → Act → World → Prop} {a : Act} {w : World} (h : ∀ a0, a0 = a → c.wpIn F n P Q a0 w) : c.wpIn F n P Q a w := h a rfl
/-- what the two loops keep beside the box -/
def HtI (K : Nat → Prop) (w0 : World) (c : Nat) (wc : World) (c' bx bz : Nat) (vz : Value) (nz : Nat) (cz : List Value) (p : E → Bool) : Inv E := fun R pre W => LpI K w0 c wc c' bx bz vz nz cz R (pre.filter p) W
theorem HtI.abide {K : Nat → Prop} {w0 : World} {c : Nat} {wc : World} {c' bx bz : Nat} {vz : Value} {nz : Nat} {cz : List Value} {p : E → Bool} (hcc : c ≤ c') : Abide (HtI K w0 c wc c' bx bz vz nz cz p) := ⟨fun h hc => h.keep hcc hc⟩
/-- behind the assignment of the loop's variable, in a box of its own -/
def HtA (I : Inv E) (a0 : Act) (sv sb : Nat) (pre : List E) (x : E) (a' : Act) (R : Nat → Prop) (W : World) : Prop :=
  ∃ xb : Nat, a' = ⟨(a0.tmps.setIfInBounds sv (.agg #[.string x.k.u, .int .u64 x.k.s, .int .i64 x.k.k, .string x.v])).setIfInBounds sb (.pointer (some ⟨xb, 0, none⟩)), []⟩ ∧ I R pre W ∧ R xb ∧ Blk W xb 47 #[.string x.k.u, .int .u64 x.k.s, .int .i64 x.k.k, .string x.v]
theorem HtA.abide {I : Inv E} (hI : Abide I) {a0 : Act} {sv sb : Nat} : ∀ pre x a' R A B, HtA I a0 sv sb pre x a' R A → Ch A B (fun k => ¬ R k) → HtA I a0 sv sb pre x a' R B := by
  rintro pre x a' R A' B' ⟨xb, h1, h2, h3, h4⟩ hc
  exact ⟨xb, h1, hI.keep h2 hc, h3, (hc.block xb h4.lt fun hn => hn h3).trans h4⟩
theorem wpListIn_append {P : Program} (w : World) {l n : Nat} {ops : Array Oper} {rest : List Oper} {o : Oper} {a : Act} {Q : Exit → Act → World → Prop} (hL : ¬ LetsOut Q) (hgd : o.guard = none) (s y : Operand) (t u : TypeId)
    (ho : o.op = .call { callee := .builtin .append, args := #[s, y], argTypes := #[t, u] })
    (base : Nat) (e : TypeId) (i : TypeInfo) (z : Value) (size bytes : Nat) (ht : P.underlying t = some (.slice e)) (hi : P.info? e = some i) (hz : i.zero = some z)
    (hsize : i.size = size) (hby : i.bytes = bytes) (hzs : z.cells.size = size) (hsz : 0 < size)
    (v : Value) (k : Nat) (cs : List Value) (hsv : a.eval s = v) (hown : Own w base e size v k cs)
    (x : Value) (m : Nat) (news : List Value) (hx : a.eval y = x) (hs : Src P w size u x m news) (h1 : ∀ u ∈ news, u.oneCell' = true)
    (h63 : k + m ≤ maxLen) (hbytes : (k + m) * bytes ≤ 140737488355328) (hbase : base ≤ w.heap.size)
    (h : ∀ v' w', Own w' base e size v' (k + m) (cs ++ news) → w.grownBy w' v.ownBlock → (v'.ownBlock = v.ownBlock ∨ v'.ownBlock = some w.heap.size) → wpListIn (Fence.wide.inRound l) n P ops Q rest (a.put o.dst v') w') : wpListIn (Fence.wide.inRound l) n P ops Q (o :: rest) a w :=
  wpListIn_plain hgd fun K hK => opIn_of_op (by unfold noDefer; rw [ho]) hL (.inl (wp_append w s y t u ho base e i z size bytes ht hi hz hsize hby hzs hsz v k cs hsv hown x m news hx hs h1 h63 hbytes hbase fun v' w' h2 h3 h4 => hK _ _ (h v' w' h2 h3 h4)))
set_option maxHeartbeats 8000000 in
set_option maxRecDepth 100000 in
theorem memHts_any (A A2 : Option Addr) (cap cap2 : Nat) (hs : List UInt8) (l : List Rc) (key : ByteArray) (w : World) (hhl : hs.length ≤ 140737488351232) (hl : l.length * 48 ≤ 140737488351232) (hr : Bs w w.heap.size A hs) (hr2 : Rd w w.heap.size A2 (rcsC l)) :
    Calls Try.prog 5 #[.slice A hs.length cap, .slice A2 l.length cap2, .string key] w fun e w' => e = .returned (.bool true) ∧ Below w.heap.size w w' := by
  obtain ⟨i0, hi, hz0, hz1, hz2⟩ := info_parts info_byte
  obtain ⟨ie, hie, hiz0, hiz1, hiz2⟩ := info_parts info_entryM
  have hb0 : Below w.heap.size w (w.alloc (.cells #[] 5)) := (Below.refl _ w).alloc (Nat.le_refl _) _
  have HO0 := Lib.hid ((Blk.new w 5 #[]).own (base := w.heap.size) (n := 0) (cap := 0) (size := 1) (xs := []) (Nat.le_refl _) (Nat.le_refl _) (by unfold maxLen; omega) rfl rfl)
  have HB0 := Lib.hid hb0
  have HR := Lib.hid hr
  have HR2 := Lib.hid hr2
  clear hb0 hr hr2
  refine (callsIn_wide (n := 20)).1 ?_
  refine callsIn_of_wp_marks Try.func5 rfl trivial ?_ rfl
  refine wpIn_wide.2 (wp_mono (Q := calm _) ?_ calm_out)
  simp only [Try.ntmps5, List.size_toArray, List.length_cons, List.length_nil, Nat.reduceAdd, Nat.reduceSub, Array.replicate_succ, Array.replicate_zero, List.push_toArray, List.append_toArray, List.nil_append, List.cons_append]
  go_wp2_with (at_builtin; go_loud (refine wpList_append _ rfl _ _ 27 27 rfl w.heap.size 5 i0 (.int .u8 0) 1 1 Try.underlying27 hi hz0 hz1 hz2 rfl (by decide) _ 0 [] rfl HO0.out _ hs.length (hs.map byteV) rfl (Src.slice _ Try.underlying27 (by simp) (HR.out.keep HB0.out)) ?c1 ?c2 ?c3 ?c4 ?_; (case c1 => (intro u hu; obtain ⟨x, _, rfl⟩ := List.mem_map.1 hu; rfl)); (case c2 => (unfold maxLen; omega)); (case c3 => omega); (case c4 => exact HB0.out.size); intro v1 w1 hO1 hG1 hl1; simp only [Nat.zero_add, List.nil_append] at hO1; have hb1 := HB0.out.grown hG1 HB0.out.size (fun k hk => (HO0.out.lt k hk).1); have HO1 := Lib.hid hO1; have HB1 := Lib.hid hb1; clear hO1 hG1 hl1 hb1))
  have hform : ∃ A1 c1, v1 = .slice A1 hs.length c1 ∧ (A1 = none → hs = [] ∧ c1 = 0) ∧ (∀ a, A1 = some a → a.spot = none) := by
    rcases HO1.out.2 with ⟨rfl, h0⟩ | ⟨g, c, cur, fz, rfl, -⟩
    · exact ⟨none, 0, (by rw [h0]), fun _ => ⟨List.eq_nil_of_length_eq_zero h0, rfl⟩, fun a h => (by cases h)⟩
    · exact ⟨_, c, rfl, fun h => (by cases h), fun a h => (by injection h with h; rw [← h])⟩
  obtain ⟨A1, c1, rfl, hA1, hS1⟩ := hform
  have HN1 := Lib.hid (mNew_tab 0 A1 c1 hs w1 (.inl rfl) hhl HO1.out.rd' hA1 hS1)
  clear HO1 HO0 HB0 hA1 hS1
  refine HN1.out.mono ?_
  rintro e w2 ⟨ga, rfl, hb2, hn2⟩
  have HNA := Lib.hid hn2
  have HC2 := Lib.hid hb2
  clear hb2 hn2 HN1
  go_wp2_with fail
  refine (mNew_tab 0 none 0 [] w2 (.inl rfl) (by decide) Rd.nil (fun _ => ⟨rfl, rfl⟩) (fun a h => by cases h)).mono ?_
  rintro e w3 ⟨gb, rfl, hb3, hn3⟩
  have HW3 := Lib.hid (Two.new (B := w.heap.size) HNA.out HB1.out.size HC2.out hn3 hb3)
  have HB3 := Lib.hid ((HB1.out.trans (HC2.out.mono HB1.out.size)).trans (hb3.mono (Nat.le_trans HB1.out.size HC2.out.size)))
  clear hb3 hn3 HNA HC2 HB1
  go_wp2_with fail
  go_loopw [11] (fun s11 wr => ∃ (k : Nat) (S : TS), k ≤ l.length ∧ s11 = .int .i64 k ∧ Hid (Below w.heap.size w wr) ∧ Hid (Two w.heap.size wr ga gb 0 hs [] S S) ∧ Hid (TOk 0 S) ∧ Hid (Nine S)) (fun s11 _ => l.length - (intOf s11).toNat)
  case atStart => exact ⟨0, emptyS, Nat.zero_le _, rfl, HB3.out, HW3.out, TOk.empty 0, fun e he => absurd he List.not_mem_nil⟩
  case round =>
    clear HW3 HB3
    obtain ⟨k, S, hk, rfl, HB, HT, HOK, HN9⟩ := hrel
    by_cases hkl : k < l.length
    · obtain ⟨b, off, rfl, hbl, t0, t1, t2, t3⟩ := rc_at HR2.out hkl
      generalize l[k] = r at *
      obtain ⟨f, q, ky, v⟩ := r
      dsimp only at t0 t1 t2 t3
      have HSS := Lib.hid (fun w' (h' : Below w.heap.size w w') => And.intro ((h'.cell (p := ⟨b, off + k * 4, none⟩) hbl).trans t0) (And.intro ((h'.cell (p := ⟨b, off + k * 4 + 1, none⟩) hbl).trans t1) (And.intro ((h'.cell (p := ⟨b, off + k * 4 + 2, none⟩) hbl).trans t2) ((h'.cell (p := ⟨b, off + k * 4 + 3, none⟩) hbl).trans t3))))
      have hki : (0 : Int) ≤ (k : Int) ∧ (k : Int) < (l.length : Int) := by omega
      clear t0 t1 t2 t3
      obtain ⟨m, hm⟩ : ∃ m : Int, m = (k : Int) % 9 := ⟨_, rfl⟩
      have hm9 : 0 ≤ m ∧ m < 9 := by omega
      go_wp2_with fail
      refine wp_region_held_drew (S := fun w' => Below w.heap.size w w') (by kernel_rfl) HB.out.drew (fun hHeld => ?_)
      refine wpAnyH_take (i := 0) (v := ?_) rfl (by kernel_rfl) (by kernel_rfl) (by kernel_rfl) (fun _ _ _ h => h) (Or.inl ⟨by rfl, ?_⟩) (by assumption) ?_
      rotate_left
      · (intro w hSw; obtain ⟨k0, k1, k2, k3⟩ := HSS.out w hSw; go_simp; try (with_reducible rfl))
      try simp only [Act.put, List.getElem_toArray, List.getElem_cons_succ, List.getElem_cons_zero, List.setIfInBounds_toArray, List.set_cons_zero, List.set_cons_succ]
      refine wpAnyH_take (i := 1) (v := ?_) rfl (by kernel_rfl) (by kernel_rfl) (by kernel_rfl) (fun _ _ _ h => h) (Or.inl ⟨by rfl, ?_⟩) (by assumption) ?_
      rotate_left
      · (intro w hSw; obtain ⟨k0, k1, k2, k3⟩ := HSS.out w hSw; go_simp; try (with_reducible rfl))
      try simp only [Act.put, List.getElem_toArray, List.getElem_cons_succ, List.getElem_cons_zero, List.setIfInBounds_toArray, List.set_cons_zero, List.set_cons_succ]
      refine wpAnyH_take (i := 2) (v := ?_) rfl (by kernel_rfl) (by kernel_rfl) (by kernel_rfl) (fun _ _ _ h => h) (Or.inl ⟨by rfl, ?_⟩) (by assumption) ?_
      rotate_left
      · (intro w hSw; obtain ⟨k0, k1, k2, k3⟩ := HSS.out w hSw; go_simp; try (with_reducible rfl))
      try simp only [Act.put, List.getElem_toArray, List.getElem_cons_succ, List.getElem_cons_zero, List.setIfInBounds_toArray, List.set_cons_zero, List.set_cons_succ]
      refine wpAnyH_take (i := 3) (v := ?_) rfl (by kernel_rfl) (by kernel_rfl) (by kernel_rfl) (fun _ _ _ h => h) (Or.inl ⟨by rfl, ?_⟩) (by assumption) ?_
      rotate_left
      · (intro w hSw; obtain ⟨k0, k1, k2, k3⟩ := HSS.out w hSw; go_simp; try (with_reducible rfl))
      try simp only [Act.put, List.getElem_toArray, List.getElem_cons_succ, List.getElem_cons_zero, List.setIfInBounds_toArray, List.set_cons_zero, List.set_cons_succ]
      refine wpAnyH_take (i := 4) (v := ?_) rfl (by kernel_rfl) (by kernel_rfl) (by kernel_rfl) (fun _ _ _ h => h) (Or.inl ⟨by rfl, ?_⟩) (by assumption) ?_
      rotate_left
      · (intro w hSw; obtain ⟨k0, k1, k2, k3⟩ := HSS.out w hSw; go_simp; try (with_reducible rfl))
      try simp only [Act.put, List.getElem_toArray, List.getElem_cons_succ, List.getElem_cons_zero, List.setIfInBounds_toArray, List.set_cons_zero, List.set_cons_succ]
      refine wpAnyH_take (i := 5) (v := ?_) rfl (by kernel_rfl) (by kernel_rfl) (by kernel_rfl) (fun _ _ _ h => h) (Or.inl ⟨by rfl, ?_⟩) (by assumption) ?_
      rotate_left
      · (intro w hSw; obtain ⟨k0, k1, k2, k3⟩ := HSS.out w hSw; go_simp; try (with_reducible rfl))
      try simp only [Act.put, List.getElem_toArray, List.getElem_cons_succ, List.getElem_cons_zero, List.setIfInBounds_toArray, List.set_cons_zero, List.set_cons_succ]
      refine wpAnyH_take (i := 6) (v := ?_) rfl (by kernel_rfl) (by kernel_rfl) (by kernel_rfl) (fun _ _ _ h => h) (Or.inl ⟨by rfl, ?_⟩) (by assumption) ?_
      rotate_left
      · (intro w hSw; obtain ⟨k0, k1, k2, k3⟩ := HSS.out w hSw; go_simp; try (with_reducible rfl))
      try simp only [Act.put, List.getElem_toArray, List.getElem_cons_succ, List.getElem_cons_zero, List.setIfInBounds_toArray, List.set_cons_zero, List.set_cons_succ]
      refine wpAnyH_take (i := 7) (v := ?_) rfl (by kernel_rfl) (by kernel_rfl) (by kernel_rfl) (fun _ _ _ h => h) (Or.inl ⟨by rfl, ?_⟩) (by assumption) ?_
      rotate_left
      · (intro w hSw; obtain ⟨k0, k1, k2, k3⟩ := HSS.out w hSw; go_simp; try (with_reducible rfl))
      try simp only [Act.put, List.getElem_toArray, List.getElem_cons_succ, List.getElem_cons_zero, List.setIfInBounds_toArray, List.set_cons_zero, List.set_cons_succ]
      refine wpAnyH_take (i := 9) (v := ?_) rfl (by kernel_rfl) (by kernel_rfl) (by kernel_rfl) (fun _ _ _ h => h) (Or.inl ⟨by rfl, ?_⟩) (by assumption) ?_
      rotate_left
      · (intro w hSw; obtain ⟨k0, k1, k2, k3⟩ := HSS.out w hSw; go_simp; try (with_reducible rfl))
      try simp only [Act.put, List.getElem_toArray, List.getElem_cons_succ, List.getElem_cons_zero, List.setIfInBounds_toArray, List.set_cons_zero, List.set_cons_succ]
      refine wpAnyH_take (i := 10) (v := ?_) rfl (by kernel_rfl) (by kernel_rfl) (by kernel_rfl) (fun _ _ _ h => h) (Or.inl ⟨by rfl, ?_⟩) (by assumption) ?_
      rotate_left
      · (intro w hSw; obtain ⟨k0, k1, k2, k3⟩ := HSS.out w hSw; go_simp; try (with_reducible rfl))
      try simp only [Act.put, List.getElem_toArray, List.getElem_cons_succ, List.getElem_cons_zero, List.setIfInBounds_toArray, List.set_cons_zero, List.set_cons_succ]
      refine wpAnyH_take (i := 11) (v := ?_) rfl (by kernel_rfl) (by kernel_rfl) (by kernel_rfl) (fun _ _ _ h => h) (Or.inl ⟨by rfl, ?_⟩) (by assumption) ?_
      rotate_left
      · (intro w hSw; obtain ⟨k0, k1, k2, k3⟩ := HSS.out w hSw; go_simp; try (with_reducible rfl))
      try simp only [Act.put, List.getElem_toArray, List.getElem_cons_succ, List.getElem_cons_zero, List.setIfInBounds_toArray, List.set_cons_zero, List.set_cons_succ]
      refine wpAnyH_take (i := 12) (v := ?_) rfl (by kernel_rfl) (by kernel_rfl) (by kernel_rfl) (fun _ _ _ h => h) (Or.inl ⟨by rfl, ?_⟩) (by assumption) ?_
      rotate_left
      · (intro w hSw; obtain ⟨k0, k1, k2, k3⟩ := HSS.out w hSw; go_simp; try (with_reducible rfl))
      try simp only [Act.put, List.getElem_toArray, List.getElem_cons_succ, List.getElem_cons_zero, List.setIfInBounds_toArray, List.set_cons_zero, List.set_cons_succ]
      refine wpAnyH_take (i := 13) (v := ?_) rfl (by kernel_rfl) (by kernel_rfl) (by kernel_rfl) (fun _ _ _ h => h) (Or.inl ⟨by rfl, ?_⟩) (by assumption) ?_
      rotate_left
      · (intro w hSw; obtain ⟨k0, k1, k2, k3⟩ := HSS.out w hSw; go_simp; try (with_reducible rfl))
      try simp only [Act.put, List.getElem_toArray, List.getElem_cons_succ, List.getElem_cons_zero, List.setIfInBounds_toArray, List.set_cons_zero, List.set_cons_succ]
      refine wpAnyH_take (i := 14) (v := ?_) rfl (by kernel_rfl) (by kernel_rfl) (by kernel_rfl) (fun _ _ _ h => h) (Or.inl ⟨by rfl, ?_⟩) (by assumption) ?_
      rotate_left
      · (intro w hSw; obtain ⟨k0, k1, k2, k3⟩ := HSS.out w hSw; go_simp; try (with_reducible rfl))
      try simp only [Act.put, List.getElem_toArray, List.getElem_cons_succ, List.getElem_cons_zero, List.setIfInBounds_toArray, List.set_cons_zero, List.set_cons_succ]
      refine wpAnyH_take (i := 15) (v := ?_) rfl (by kernel_rfl) (by kernel_rfl) (by kernel_rfl) (fun _ _ _ h => h) (Or.inl ⟨by rfl, ?_⟩) (by assumption) ?_
      rotate_left
      · (intro w hSw; obtain ⟨k0, k1, k2, k3⟩ := HSS.out w hSw; go_simp; try (with_reducible rfl))
      try simp only [Act.put, List.getElem_toArray, List.getElem_cons_succ, List.getElem_cons_zero, List.setIfInBounds_toArray, List.set_cons_zero, List.set_cons_succ]
      refine wpAnyH_take (i := 16) (v := ?_) rfl (by kernel_rfl) (by kernel_rfl) (by kernel_rfl) (fun _ _ _ h => h) (Or.inl ⟨by rfl, ?_⟩) (by assumption) ?_
      rotate_left
      · (intro w hSw; obtain ⟨k0, k1, k2, k3⟩ := HSS.out w hSw; go_simp; try (with_reducible rfl))
      try simp only [Act.put, List.getElem_toArray, List.getElem_cons_succ, List.getElem_cons_zero, List.setIfInBounds_toArray, List.set_cons_zero, List.set_cons_succ]
      refine wpAnyH_ready (rs := [8]) (by kernel_rfl) (by simp) ?_
      refine AllReadyH.cons rfl (fun K hK => ?_) ?_
      · go_simp
        have hm2 : IntKind.u64.wrap ((k : Int).tmod 9) = m := by rw [Int.tmod_eq_emod_of_nonneg (by omega), ← hm]; exact u64_in _ (by omega)
        rw [hm2]
        refine (mAdd_two (HT.out.below (Below.refl _ _).drew) hHeld.size (by omega) HOK.out m ⟨f, q, ky, v⟩).mono ?_
        rintro e w4 ⟨rfl, ht4, hb4⟩
        have hB4 := hHeld.trans hb4
        refine hK.out _ _ hB4 (fun hHeld => ?_)
        clear hb4 hB4
        clear hK K
        try simp only [Act.put, List.getElem_toArray, List.getElem_cons_succ, List.getElem_cons_zero, List.setIfInBounds_toArray, List.set_cons_zero, List.set_cons_succ]
        refine wpAnyH_ready (rs := [17]) (by kernel_rfl) (by simp) ?_
        refine AllReadyH.cons rfl (fun K hK => ?_) ?_
        · go_simp
          first | rw [hm2] | rw [← hm]
          refine (mAdd_two ht4.swap hHeld.size (by decide) HOK.out m ⟨f, q, ky, v⟩).mono ?_
          rintro e w5 ⟨rfl, ht5, hb5⟩
          have hB5 := hHeld.trans hb5
          refine hK.out _ _ hB5 (fun hHeld => ?_)
          clear hb5 hB5
          clear hK K
          try simp only [Act.put, List.getElem_toArray, List.getElem_cons_succ, List.getElem_cons_zero, List.setIfInBounds_toArray, List.set_cons_zero, List.set_cons_succ]
          have HT5 := Lib.hid ht5.swap
          have HOK5 := Lib.hid (HOK.out.add m ⟨f, q, ky, v⟩)
          have HN5 := Lib.hid (HN9.out.add (how := 0) (r := ⟨f, q, ky, v⟩) hm9.1 hm9.2)
          generalize (addS 0 S m ⟨f, q, ky, v⟩).2 = cc at *
          generalize (addS 0 S m ⟨f, q, ky, v⟩).1 = S' at *
          clear ht4 ht5 hm2
          refine wpAnyH_take (i := 18) (v := ?_) rfl (by kernel_rfl) (by kernel_rfl) (by kernel_rfl) (fun _ _ _ h => h) (Or.inl ⟨by rfl, ?_⟩) (by assumption) ?_
          rotate_left
          · (intro w hSw; (try dsimp only at hSw); go_simp; try (with_reducible rfl))
          try simp only [Act.put, List.getElem_toArray, List.getElem_cons_succ, List.getElem_cons_zero, List.setIfInBounds_toArray, List.set_cons_zero, List.set_cons_succ]
          refine wpAnyH_done (by kernel_rfl) ?_ _
          go_wp2_with fail
          go_roundw
          case rel => exact ⟨k + 1, S', by omega, by go_num, hHeld, HT5.out, HOK5.out, HN5.out⟩
          case measure => simp [intOf]; omega
        exact AllReadyH.nil
      exact AllReadyH.nil
    · obtain rfl : k = l.length := by omega
      have HFA := Lib.hid (all_filter HOK.out HN9.out)
      have HFB := Lib.hid (back_eq HOK.out HN9.out)
      have hSn := HOK.out.n
      go_wp2_with fail
      have e2 : wr.heap.size + 1 + 1 = wr.heap.size + 2 := rfl
      have e3 : wr.heap.size + 2 + 1 = wr.heap.size + 3 := rfl
      rw [e2, e3]
      have hb10 : Below wr.heap.size wr ((((wr.alloc (.cells #[] 47)).alloc (.cells #[] 47)).alloc (.cells #[.slice (some ⟨wr.heap.size, 0, none⟩) 0 0] 40)).alloc (.cells #[.slice (some ⟨wr.heap.size + 1, 0, none⟩) 0 0] 40)) :=
        ((((Below.refl _ wr).alloc (Nat.le_refl _) _).alloc (by simp) _).alloc (by simp; omega) _).alloc (by simp; omega) _
      have hz10 : ((((wr.alloc (.cells #[] 47)).alloc (.cells #[] 47)).alloc (.cells #[.slice (some ⟨wr.heap.size, 0, none⟩) 0 0] 40)).alloc (.cells #[.slice (some ⟨wr.heap.size + 1, 0, none⟩) 0 0] 40)).heap.size = wr.heap.size + 4 := by simp
      have q0 : Blk ((((wr.alloc (.cells #[] 47)).alloc (.cells #[] 47)).alloc (.cells #[.slice (some ⟨wr.heap.size, 0, none⟩) 0 0] 40)).alloc (.cells #[.slice (some ⟨wr.heap.size + 1, 0, none⟩) 0 0] 40)) wr.heap.size 47 #[] := (((Blk.new wr _ _).alloc _).alloc _).alloc _
      have q1 : Blk ((((wr.alloc (.cells #[] 47)).alloc (.cells #[] 47)).alloc (.cells #[.slice (some ⟨wr.heap.size, 0, none⟩) 0 0] 40)).alloc (.cells #[.slice (some ⟨wr.heap.size + 1, 0, none⟩) 0 0] 40)) (wr.heap.size + 1) 47 #[] := ((blk_at (by simp)).alloc _).alloc _
      have q2 : Blk ((((wr.alloc (.cells #[] 47)).alloc (.cells #[] 47)).alloc (.cells #[.slice (some ⟨wr.heap.size, 0, none⟩) 0 0] 40)).alloc (.cells #[.slice (some ⟨wr.heap.size + 1, 0, none⟩) 0 0] 40)) (wr.heap.size + 2) 40 #[.slice (some ⟨wr.heap.size, 0, none⟩) 0 0] := (blk_at (by simp)).alloc _
      have q3 : Blk ((((wr.alloc (.cells #[] 47)).alloc (.cells #[] 47)).alloc (.cells #[.slice (some ⟨wr.heap.size, 0, none⟩) 0 0] 40)).alloc (.cells #[.slice (some ⟨wr.heap.size + 1, 0, none⟩) 0 0] 40)) (wr.heap.size + 3) 40 #[.slice (some ⟨wr.heap.size + 1, 0, none⟩) 0 0] := blk_at (by simp)
      generalize ((((wr.alloc (.cells #[] 47)).alloc (.cells #[] 47)).alloc (.cells #[.slice (some ⟨wr.heap.size, 0, none⟩) 0 0] 40)).alloc (.cells #[.slice (some ⟨wr.heap.size + 1, 0, none⟩) 0 0] 40)) = w10 at *
      refine (mAll_any ga ⟨#[]⟩ 72057594037927935 2 w10).mono ?_
      rintro e wa ⟨rfl, hwa⟩
      have hba : Below w10.heap.size w10 wa := by rw [hwa]; exact ((Below.refl _ _).alloc (Nat.le_refl _) _).alloc (by simp) _
      have hza : wa.heap.size = wr.heap.size + 6 := by rw [hwa]; simp; omega
      have q4 : Blk wa (wr.heap.size + 4) 23 #[.pointer (some ⟨ga, 0, none⟩)] := by rw [hwa]; exact (blk_at (by omega)).alloc _
      have q5 : Blk wa (wr.heap.size + 5) 45 #[.string ⟨#[]⟩, .int .u64 72057594037927935, .int .i64 2] := by rw [hwa]; exact blk_at (by simp; omega)
      rw [hz10]
      have e5 : wr.heap.size + 4 + 1 = wr.heap.size + 5 := rfl
      rw [e5]
      clear hwa
      go_wp2_with fail
      refine (mBack_any ga ⟨#[255, 255, 255, 255, 255]⟩ 0 0 wa).mono ?_
      rintro e wx ⟨rfl, hwx⟩
      have hbx : Below wa.heap.size wa wx := by rw [hwx]; exact ((Below.refl _ _).alloc (Nat.le_refl _) _).alloc (by simp) _
      have hzx : wx.heap.size = wr.heap.size + 8 := by rw [hwx]; simp; omega
      have q6 : Blk wx (wr.heap.size + 6) 23 #[.pointer (some ⟨ga, 0, none⟩)] := by rw [hwx]; exact (blk_at (by omega)).alloc _
      have q7 : Blk wx (wr.heap.size + 7) 45 #[.string ⟨#[255, 255, 255, 255, 255]⟩, .int .u64 0, .int .i64 0] := by rw [hwx]; exact blk_at (by simp; omega)
      rw [hza]
      have e7 : wr.heap.size + 6 + 1 = wr.heap.size + 7 := rfl
      rw [e7]
      clear hwx
      have hbw : Below wr.heap.size wr wx := (hb10.trans (hba.mono (by omega))).trans (hbx.mono (by omega))
      have q4 := q4.below hbx (by omega)
      have q5 := q5.below hbx (by omega)
      have q0 := (q0.below hba (by omega)).below hbx (by omega)
      have q1 := (q1.below hba (by omega)).below hbx (by omega)
      have q2 := (q2.below hba (by omega)).below hbx (by omega)
      have q3 := (q3.below hba (by omega)).below hbx (by omega)
      have hQ := And.intro q0 (And.intro q1 (And.intro q2 (And.intro q3 (And.intro q4 (And.intro q5 (And.intro q6 q7))))))
      have HQ := Lib.hid hQ
      have HBW := Lib.hid hbw
      clear q0 q1 q2 q3 q4 q5 q6 q7 hQ hbw hba hbx hb10 hza hz10
      have hf1 := func_eq (.func 30) #[] #[.pointer (some ⟨wr.heap.size + 4, 0, none⟩), .pointer (some ⟨wr.heap.size + 5, 0, none⟩)] wx
      have hf2 := func_eq (.func 34) #[] #[.pointer (some ⟨wr.heap.size + 6, 0, none⟩), .pointer (some ⟨wr.heap.size + 7, 0, none⟩)] wx
      go_wp2_with fail
      refine (wpIn_wide (n := 20)).1 ?_
      refine act_named ?_
      intro a0 ha0
      have hLP0 : LpI (fun k => k = wr.heap.size + 6 ∨ k = wr.heap.size + 7) wx wr.heap.size wr (wr.heap.size + 8) (wr.heap.size + 2) (wr.heap.size + 3) (.slice (some ⟨wr.heap.size + 1, 0, none⟩) 0 0) 0 [] (fun k => k < wx.heap.size) [] wx := by
        obtain ⟨q0, q1, q2, q3, -⟩ := HQ.out
        refine ⟨HBW.out, fun k hk => by omega, fun k hk => hk, ⟨by omega, by omega, by omega, by omega, by omega, by omega⟩, ⟨.slice (some ⟨wr.heap.size, 0, none⟩) 0 0, q2, q0.own (by omega) (by omega) (by unfold maxLen; omega) rfl rfl, fun k hk => ?_⟩, fun k hk => ⟨by omega, by omega, rfl⟩, q3, q1.own (by omega) (by omega) (by unfold maxLen; omega) rfl rfl, fun k hk => ?_⟩
        · have hk : some wr.heap.size = some k := hk
          injection hk with hk
          refine ⟨by omega, by omega, by omega, fun h => ?_, fun h => by omega⟩
          have h : some (wr.heap.size + 1) = some k := h
          injection h with h; omega
        · have hk : some (wr.heap.size + 1) = some k := hk
          injection hk with hk
          exact ⟨by omega, by omega⟩
      obtain ⟨Fa, Ha, hTa⟩ := HT.out.a
      refine wpIn_rangeX rfl (by decide) (gf := 30) (lb := #[.pointer (some ⟨wr.heap.size + 4, 0, none⟩), .pointer (some ⟨wr.heap.size + 5, 0, none⟩)]) (by rw [ha0]; rfl) trivial (enters_of Try.func30 (by kernel_rfl) rfl)
        (encs := encE) (D := fun _ => False) (S := fun xs => xs = S.l.filter (holdsA 0 fromA)) (Sp := fun pre => ∃ k, k ≤ (S.l.filter (holdsA 0 fromA)).length ∧ pre = (S.l.filter (holdsA 0 fromA)).take k) (N := (S.l.filter (holdsA 0 fromA)).length)
        (fun W' hb' => by
          obtain ⟨-, -, -, -, q4, q5, -⟩ := HQ.out
          have q4' := q4.below hb' q4.lt
          have q5' := q5.below hb' q5.lt
          exact all1_seq 19 (by decide) (hTa.below (HBW.out.trans (hb'.mono HBW.out.size))) (by omega) (wr.heap.size + 4) (wr.heap.size + 5) fromA (q4'.cell 0) ⟨q5'.cell 0, q5'.cell 1, q5'.cell 2⟩)
        (fun k hk => hk.elim) (fun _ => rfl)
        (HtI (fun k => k = wr.heap.size + 6 ∨ k = wr.heap.size + 7) wx wr.heap.size wr (wr.heap.size + 8) (wr.heap.size + 2) (wr.heap.size + 3) (.slice (some ⟨wr.heap.size + 1, 0, none⟩) 0 0) 0 [] leFF) (fun _ _ _ _ => False) (HtI.abide (by omega)) (fun c => ⟨fun h _ => h.elim⟩) hLP0
        (HtA (HtI (fun k => k = wr.heap.size + 6 ∨ k = wr.heap.size + 7) wx wr.heap.size wr (wr.heap.size + 8) (wr.heap.size + 2) (wr.heap.size + 3) (.slice (some ⟨wr.heap.size + 1, 0, none⟩) 0 0) 0 [] leFF) a0 91 16) (HtA.abide (HtI.abide (by omega))) ?assign ?body ?done (fun d c R pre W _ _ _ h _ => h.elim)
      case assign =>
        intro l' R pre x W hi hlen hsp
        obtain ⟨⟨u, s, q⟩, v⟩ := x
        unfold encE
        dsimp only
        have HAL := Lib.hid (LpI.alloc hi (by omega) #[.string u, .int .u64 s, .int .i64 q, .string v] 47)
        have HX := Lib.hid (Blk.new W 47 #[.string u, .int .u64 s, .int .i64 q, .string v])
        have HA0 := Lib.hid ha0
        rw [ha0]
        clear hi ha0
        gi_wp2
        exact ⟨_, HAL.out.1, W.heap.size, rfl, HAL.out.2, .inr rfl, HX.out⟩
      case body =>
        rintro l' R pre x a' W hl' ⟨xb, rfl, hi, hrx, hxk⟩ hlen hsp
        obtain ⟨⟨u, s, q⟩, v⟩ := x
        dsimp only at hxk
        have x0 : W.cell? ⟨xb, 0, none⟩ = some (.string u) := hxk.cell 0
        have x1 : W.cell? ⟨xb, 1, none⟩ = some (.int .u64 s) := hxk.cell 1
        have x2 : W.cell? ⟨xb, 2, none⟩ = some (.int .i64 q) := hxk.cell 2
        have x3 : W.cell? ⟨xb, 3, none⟩ = some (.string v) := hxk.cell 3
        have HI := Lib.hid hi
        have HXK := Lib.hid hxk
        have HA0 := Lib.hid ha0
        have hpl : pre.length ≤ 1000000 := by
          have h1 := List.length_filter_le (holdsA 0 fromA) S.l
          have h2 : S.n = S.l.length + S.t.length := rfl
          omega
        rw [ha0]
        simp only [List.setIfInBounds_toArray, List.set_cons_succ, List.set_cons_zero]
        clear hi hxk ha0
        obtain ⟨vb, hvb1, hvb2, hvb3⟩ := HI.out.ex
        have b0 : W.cell? ⟨wr.heap.size + 2, 0, none⟩ = some vb := hvb1.cell 0
        have hfl : ∀ bb : Bool, leFF ⟨⟨u, s, q⟩, v⟩ = bb → (pre ++ [(⟨⟨u, s, q⟩, v⟩ : E)]).filter leFF = pre.filter leFF ++ (if bb then [⟨⟨u, s, q⟩, v⟩] else []) := fun bb h => by
          rw [List.filter_append, List.filter_cons, h]; cases bb <;> rfl
        cases h1 : Op.bytesLess u.toList [255, 255, 255, 255, 255] <;> cases h2 : (u.toList == [255, 255, 255, 255, 255])
        · have HFL := Lib.hid (hfl false (by show (Op.bytesLess u.toList _ || (u.toList == _)) = false; rw [h1, h2]; rfl))
          clear hfl
          gi_wp2
          refine ⟨R, ⟨Ch.refl _ _, fun _ h => h, fun _ h => .inl h⟩, ?_⟩
          unfold HtI
          rw [HFL.out, if_neg (by decide), List.append_nil]
          exact HI.out
        ·
          have HFL := Lib.hid (hfl true (by show (Op.bytesLess u.toList _ || (u.toList == _)) = true; rw [h1, h2]; rfl))
          clear hfl
          have HAL := Lib.hid (LpI.alloc HI.out (by omega) #[.string u, .int .u64 s, .int .i64 q, .string v] 47)
          have HOB := Lib.hid (hvb2.alloc (.cells #[.string u, .int .u64 s, .int .i64 q, .string v] 47))
          have HN1 : Hid (Rd (W.alloc (.cells #[.string u, .int .u64 s, .int .i64 q, .string v] 47)) (W.heap.size + 1) (some ⟨W.heap.size, 0, none⟩) (entC ⟨⟨u, s, q⟩, v⟩)) := Rd.new W #[.string u, .int .u64 s, .int .i64 q, .string v] 47
          have HB1 := Lib.hid (hvb1.alloc (.cells #[.string u, .int .u64 s, .int .i64 q, .string v] 47))
          have hpf : (pre.filter leFF).length ≤ 1000000 := Nat.le_trans (List.length_filter_le _ _) hpl
          have hcz : wr.heap.size ≤ (W.alloc (.cells #[.string u, .int .u64 s, .int .i64 q, .string v] 47)).heap.size := by have := HI.out.bc.2.2.2.2.2; simp; omega
          have HVB := Lib.hid hvb3
          clear hvb1 hvb2 hvb3
          gi_wp2_with (gi_at_builtin; go_loud (refine wpListIn_append _ (fun ⟨_, _, h⟩ => h) rfl _ _ 40 40 rfl wr.heap.size 47 ie _ 4 48 Try.underlying40 hie hiz0 hiz1 hiz2 rfl (by decide) _ _ _ rfl HOB.out _ 1 _ rfl (Src.slice _ Try.underlying40 rfl HN1.out) ?c1 ?c2 ?c3 ?c4 ?_; (case c1 => simp [entC, Value.oneCell']); (case c2 => (unfold maxLen; omega)); (case c3 => omega); (case c4 => exact hcz); intro v5 w5 hO5 hG5 hl5; have hbk5 := HB1.out.grown hG5 (fun e' => (HVB.out _ e'.symm).2.1 rfl); have b5 : w5.cell? ⟨wr.heap.size + 2, 0, none⟩ = some vb := hbk5.cell 0; have f5 := hbk5.frozen 0; have HO5 := Lib.hid hO5; have HG5 := Lib.hid hG5; have HL5 := Lib.hid hl5; clear hO5 hG5 hl5 hbk5; obtain ⟨A5, c5, rfl, -⟩ := HO5.out.slice_))
          have happ := LpI.app HAL.out.2 (by omega) HB1.out HO5.out HG5.out HL5.out
          refine ⟨_, HAL.out.1.trans happ.1, ?_⟩
          unfold HtI
          rw [HFL.out, if_pos trivial]
          exact happ.2
        ·
          have HFL := Lib.hid (hfl true (by show (Op.bytesLess u.toList _ || (u.toList == _)) = true; rw [h1, h2]; rfl))
          clear hfl
          have HAL := Lib.hid (LpI.alloc HI.out (by omega) #[.string u, .int .u64 s, .int .i64 q, .string v] 47)
          have HOB := Lib.hid (hvb2.alloc (.cells #[.string u, .int .u64 s, .int .i64 q, .string v] 47))
          have HN1 : Hid (Rd (W.alloc (.cells #[.string u, .int .u64 s, .int .i64 q, .string v] 47)) (W.heap.size + 1) (some ⟨W.heap.size, 0, none⟩) (entC ⟨⟨u, s, q⟩, v⟩)) := Rd.new W #[.string u, .int .u64 s, .int .i64 q, .string v] 47
          have HB1 := Lib.hid (hvb1.alloc (.cells #[.string u, .int .u64 s, .int .i64 q, .string v] 47))
          have hpf : (pre.filter leFF).length ≤ 1000000 := Nat.le_trans (List.length_filter_le _ _) hpl
          have hcz : wr.heap.size ≤ (W.alloc (.cells #[.string u, .int .u64 s, .int .i64 q, .string v] 47)).heap.size := by have := HI.out.bc.2.2.2.2.2; simp; omega
          have HVB := Lib.hid hvb3
          clear hvb1 hvb2 hvb3
          gi_wp2_with (gi_at_builtin; go_loud (refine wpListIn_append _ (fun ⟨_, _, h⟩ => h) rfl _ _ 40 40 rfl wr.heap.size 47 ie _ 4 48 Try.underlying40 hie hiz0 hiz1 hiz2 rfl (by decide) _ _ _ rfl HOB.out _ 1 _ rfl (Src.slice _ Try.underlying40 rfl HN1.out) ?c1 ?c2 ?c3 ?c4 ?_; (case c1 => simp [entC, Value.oneCell']); (case c2 => (unfold maxLen; omega)); (case c3 => omega); (case c4 => exact hcz); intro v5 w5 hO5 hG5 hl5; have hbk5 := HB1.out.grown hG5 (fun e' => (HVB.out _ e'.symm).2.1 rfl); have b5 : w5.cell? ⟨wr.heap.size + 2, 0, none⟩ = some vb := hbk5.cell 0; have f5 := hbk5.frozen 0; have HO5 := Lib.hid hO5; have HG5 := Lib.hid hG5; have HL5 := Lib.hid hl5; clear hO5 hG5 hl5 hbk5; obtain ⟨A5, c5, rfl, -⟩ := HO5.out.slice_))
          have happ := LpI.app HAL.out.2 (by omega) HB1.out HO5.out HG5.out HL5.out
          refine ⟨_, HAL.out.1.trans happ.1, ?_⟩
          unfold HtI
          rw [HFL.out, if_pos trivial]
          exact happ.2
        ·
          have HFL := Lib.hid (hfl true (by show (Op.bytesLess u.toList _ || (u.toList == _)) = true; rw [h1, h2]; rfl))
          clear hfl
          have HAL := Lib.hid (LpI.alloc HI.out (by omega) #[.string u, .int .u64 s, .int .i64 q, .string v] 47)
          have HOB := Lib.hid (hvb2.alloc (.cells #[.string u, .int .u64 s, .int .i64 q, .string v] 47))
          have HN1 : Hid (Rd (W.alloc (.cells #[.string u, .int .u64 s, .int .i64 q, .string v] 47)) (W.heap.size + 1) (some ⟨W.heap.size, 0, none⟩) (entC ⟨⟨u, s, q⟩, v⟩)) := Rd.new W #[.string u, .int .u64 s, .int .i64 q, .string v] 47
          have HB1 := Lib.hid (hvb1.alloc (.cells #[.string u, .int .u64 s, .int .i64 q, .string v] 47))
          have hpf : (pre.filter leFF).length ≤ 1000000 := Nat.le_trans (List.length_filter_le _ _) hpl
          have hcz : wr.heap.size ≤ (W.alloc (.cells #[.string u, .int .u64 s, .int .i64 q, .string v] 47)).heap.size := by have := HI.out.bc.2.2.2.2.2; simp; omega
          have HVB := Lib.hid hvb3
          clear hvb1 hvb2 hvb3
          gi_wp2_with (gi_at_builtin; go_loud (refine wpListIn_append _ (fun ⟨_, _, h⟩ => h) rfl _ _ 40 40 rfl wr.heap.size 47 ie _ 4 48 Try.underlying40 hie hiz0 hiz1 hiz2 rfl (by decide) _ _ _ rfl HOB.out _ 1 _ rfl (Src.slice _ Try.underlying40 rfl HN1.out) ?c1 ?c2 ?c3 ?c4 ?_; (case c1 => simp [entC, Value.oneCell']); (case c2 => (unfold maxLen; omega)); (case c3 => omega); (case c4 => exact hcz); intro v5 w5 hO5 hG5 hl5; have hbk5 := HB1.out.grown hG5 (fun e' => (HVB.out _ e'.symm).2.1 rfl); have b5 : w5.cell? ⟨wr.heap.size + 2, 0, none⟩ = some vb := hbk5.cell 0; have f5 := hbk5.frozen 0; have HO5 := Lib.hid hO5; have HG5 := Lib.hid hG5; have HL5 := Lib.hid hl5; clear hO5 hG5 hl5 hbk5; obtain ⟨A5, c5, rfl, -⟩ := HO5.out.slice_))
          have happ := LpI.app HAL.out.2 (by omega) HB1.out HO5.out HG5.out HL5.out
          refine ⟨_, HAL.out.1.trans happ.1, ?_⟩
          unfold HtI
          rw [HFL.out, if_pos trivial]
          exact happ.2
      case done =>
        rintro d R xs W hd hRd rfl hi hdk
        rw [HFA.out] at hi
        have hdl : d < W.heap.size := (Array.getElem?_eq_some_iff.1 hdk).1
        obtain ⟨va, hva1, hva2, hva3⟩ := hi.ex
        obtain ⟨vz1, vz2, vz3⟩ := hi.oz
        have hbc := hi.bc
        have hLP1 : LpI (fun k => k = d) W wr.heap.size wr W.heap.size (wr.heap.size + 3) (wr.heap.size + 2) va (S.l.filter leFF).length (entsC (S.l.filter leFF)) (fun k => k < W.heap.size) [] W := by
          refine ⟨hi.bel, fun k hk => hk, fun k hk => hk, ⟨by omega, hi.dn _ (hi.up _ (by omega)), by omega, hi.dn _ (hi.up _ (by omega)), by omega, by omega⟩, ⟨_, vz1, vz2, fun k hk => ?_⟩, fun k hk => ⟨by omega, by omega, rfl⟩, hva1, hva2, fun k hk => ⟨hi.dn k (hva3 k hk).1, (hva3 k hk).2.2.1⟩⟩
          have hk' : some (wr.heap.size + 1) = some k := hk
          injection hk' with hk'
          exact ⟨hi.dn k (vz3 k hk).1, by omega, (vz3 k hk).2, fun h => (hva3 k h).2.2.2.1 hk, by omega⟩
        have HLP1 := Lib.hid hLP1
        have HBW1 := Lib.hid hi.bel
        have HDK := Lib.hid hdk
        have hzx1 : wr.heap.size + 8 ≤ W.heap.size := by
          have := hi.dn (wr.heap.size + 7) (hi.up _ (by omega)); omega
        have hq67 : W.heap[wr.heap.size + 6]? = wx.heap[wr.heap.size + 6]? ∧ W.heap[wr.heap.size + 7]? = wx.heap[wr.heap.size + 7]? := ⟨(hi.kp _ (.inl rfl)).2.2, (hi.kp _ (.inr rfl)).2.2⟩
        clear hLP1 hva1 hva2 hva3 vz1 vz2 vz3 hi hdk
        obtain ⟨-, -, -, -, -, -, q6, q7⟩ := HQ.out
        have hq6 : Blk W (wr.heap.size + 6) 23 #[.pointer (some ⟨ga, 0, none⟩)] := hq67.1.trans q6
        have hq7 : Blk W (wr.heap.size + 7) 45 #[.string ⟨#[255, 255, 255, 255, 255]⟩, .int .u64 0, .int .i64 0] := hq67.2.trans q7
        have HQ6 := Lib.hid hq6
        have HQ7 := Lib.hid hq7
        clear q6 q7 hq6 hq7 hq67 hbc
        rw [ha0]
        clear ha0 a0
        go_wp2_with fail
        refine (wpIn_wide (n := 20)).1 ?_
        refine act_named ?_
        intro a0 ha0
        refine wpIn_rangeX rfl (by decide) (gf := 34) (lb := #[.pointer (some ⟨wr.heap.size + 6, 0, none⟩), .pointer (some ⟨wr.heap.size + 7, 0, none⟩)]) (by rw [ha0]; rfl) trivial (enters_of Try.func34 (by kernel_rfl) rfl)
          (encs := encE) (D := fun _ => False) (S := fun xs => xs = (S.l.filter (holdsB 0 fromB)).reverse) (Sp := fun pre => ∃ k, k ≤ (S.l.filter (holdsB 0 fromB)).length ∧ pre = (S.l.filter (holdsB 0 fromB)).reverse.take k) (N := (S.l.filter (holdsB 0 fromB)).length)
          (fun W' hb' => by
            have q6' := HQ6.out.below hb' HQ6.out.lt
            have q7' := HQ7.out.below hb' HQ7.out.lt
            exact back1_seq 19 (by decide) (hTa.below (HBW1.out.trans (hb'.mono HBW1.out.size))) (by omega) (wr.heap.size + 6) (wr.heap.size + 7) fromB (q6'.cell 0) ⟨q7'.cell 0, q7'.cell 1, q7'.cell 2⟩)
          (fun k hk => hk.elim) (fun _ => rfl)
          (HtI (fun k => k = d) W wr.heap.size wr W.heap.size (wr.heap.size + 3) (wr.heap.size + 2) va (S.l.filter leFF).length (entsC (S.l.filter leFF)) (fun _ => true)) (fun _ _ _ _ => False) (HtI.abide (by omega)) (fun c => ⟨fun h _ => h.elim⟩) HLP1.out
          (HtA (HtI (fun k => k = d) W wr.heap.size wr W.heap.size (wr.heap.size + 3) (wr.heap.size + 2) va (S.l.filter leFF).length (entsC (S.l.filter leFF)) (fun _ => true)) a0 101 17) (HtA.abide (HtI.abide (by omega))) ?assign2 ?body2 ?done2 (fun d c R pre W _ _ _ h _ => h.elim)
        case assign2 =>
          intro l' R pre x Wz hi hlen hsp
          obtain ⟨⟨u, s, q⟩, v⟩ := x
          unfold encE
          dsimp only
          have HAL := Lib.hid (LpI.alloc hi (by omega) #[.string u, .int .u64 s, .int .i64 q, .string v] 47)
          have HX := Lib.hid (Blk.new Wz 47 #[.string u, .int .u64 s, .int .i64 q, .string v])
          have HA0 := Lib.hid ha0
          rw [ha0]
          clear hi ha0
          gi_wp2
          exact ⟨_, HAL.out.1, Wz.heap.size, rfl, HAL.out.2, .inr rfl, HX.out⟩
        case body2 =>
          rintro l' R pre x a' Wz hl' ⟨xb, rfl, hi, hrx, hxk⟩ hlen hsp
          obtain ⟨⟨u, s, q⟩, v⟩ := x
          dsimp only at hxk
          have x0 : Wz.cell? ⟨xb, 0, none⟩ = some (.string u) := hxk.cell 0
          have x1 : Wz.cell? ⟨xb, 1, none⟩ = some (.int .u64 s) := hxk.cell 1
          have x2 : Wz.cell? ⟨xb, 2, none⟩ = some (.int .i64 q) := hxk.cell 2
          have x3 : Wz.cell? ⟨xb, 3, none⟩ = some (.string v) := hxk.cell 3
          have HI := Lib.hid hi
          have HXK := Lib.hid hxk
          have HA0 := Lib.hid ha0
          have hpl : pre.length ≤ 1000000 := by
            have h1 := List.length_filter_le (holdsB 0 fromB) S.l
            have h2 : S.n = S.l.length + S.t.length := rfl
            omega
          rw [ha0]
          simp only [List.setIfInBounds_toArray, List.set_cons_succ, List.set_cons_zero]
          clear hi hxk ha0
          obtain ⟨vb, hvb1, hvb2, hvb3⟩ := HI.out.ex
          have b0 : Wz.cell? ⟨wr.heap.size + 3, 0, none⟩ = some vb := hvb1.cell 0
          have HFL : Hid ((pre ++ [(⟨⟨u, s, q⟩, v⟩ : E)]).filter (fun _ => true) = pre.filter (fun _ => true) ++ [⟨⟨u, s, q⟩, v⟩]) := by rw [Hid, List.filter_append]; rfl
          have HAL := Lib.hid (LpI.alloc HI.out (by omega) #[.string u, .int .u64 s, .int .i64 q, .string v] 47)
          have HOB := Lib.hid (hvb2.alloc (.cells #[.string u, .int .u64 s, .int .i64 q, .string v] 47))
          have HN1 : Hid (Rd (Wz.alloc (.cells #[.string u, .int .u64 s, .int .i64 q, .string v] 47)) (Wz.heap.size + 1) (some ⟨Wz.heap.size, 0, none⟩) (entC ⟨⟨u, s, q⟩, v⟩)) := Rd.new Wz #[.string u, .int .u64 s, .int .i64 q, .string v] 47
          have HB1 := Lib.hid (hvb1.alloc (.cells #[.string u, .int .u64 s, .int .i64 q, .string v] 47))
          have hpf : (pre.filter (fun _ => true)).length ≤ 1000000 := Nat.le_trans (List.length_filter_le _ _) hpl
          have hcz : wr.heap.size ≤ (Wz.alloc (.cells #[.string u, .int .u64 s, .int .i64 q, .string v] 47)).heap.size := by have := HI.out.bc.2.2.2.2.2; simp; omega
          have HVB := Lib.hid hvb3
          clear hvb1 hvb2 hvb3
          gi_wp2_with (gi_at_builtin; go_loud (refine wpListIn_append _ (fun ⟨_, _, h⟩ => h) rfl _ _ 40 40 rfl wr.heap.size 47 ie _ 4 48 Try.underlying40 hie hiz0 hiz1 hiz2 rfl (by decide) _ _ _ rfl HOB.out _ 1 _ rfl (Src.slice _ Try.underlying40 rfl HN1.out) ?c1 ?c2 ?c3 ?c4 ?_; (case c1 => simp [entC, Value.oneCell']); (case c2 => (unfold maxLen; omega)); (case c3 => omega); (case c4 => exact hcz); intro v5 w5 hO5 hG5 hl5; have hbk5 := HB1.out.grown hG5 (fun e' => (HVB.out _ e'.symm).2.1 rfl); have b5 : w5.cell? ⟨wr.heap.size + 3, 0, none⟩ = some vb := hbk5.cell 0; have f5 := hbk5.frozen 0; have HO5 := Lib.hid hO5; have HG5 := Lib.hid hG5; have HL5 := Lib.hid hl5; clear hO5 hG5 hl5 hbk5; obtain ⟨A5, c5, rfl, -⟩ := HO5.out.slice_))
          have happ := LpI.app HAL.out.2 (by omega) HB1.out HO5.out HG5.out HL5.out
          refine ⟨_, HAL.out.1.trans happ.1, ?_⟩
          unfold HtI
          rw [HFL.out]
          exact happ.2
        case done2 =>
          rintro d2 R2 xs Wz hd2 hRd2 rfl hi2 hdk2
          rw [HFB.out] at hi2
          unfold HtI at hi2
          rw [List.filter_eq_self.2 (fun _ _ => rfl)] at hi2
          obtain ⟨vk, hvk1, hvk2, hvk3⟩ := hi2.ex
          obtain ⟨vo1, vo2, vo3⟩ := hi2.oz
          have HD1 : Hid (Wz.heap[d]? = some (.deferred (some []))) := (hi2.kp d rfl).2.2.trans HDK.out
          have hd1z : d < W.heap.size := (hi2.kp d rfl).1
          have hdd : d ≠ d2 := fun e => hRd2 (by rw [← e]; exact hi2.up d hd1z)
          have hWz : W.heap.size ≤ Wz.heap.size := hi2.bc.2.2.2.2.2 |> fun _ => Nat.le_of_lt_succ (Nat.lt_succ_of_le (by have := (Array.getElem?_eq_some_iff.1 hdk2).1; omega))
          have HBZ := Lib.hid hi2.bel
          have HD2 := Lib.hid hdk2
          obtain ⟨Aa, ca, rfl, -⟩ := vo2.slice_
          obtain ⟨Ak, ck, rfl, -⟩ := hvk2.slice_
          have HSA := Lib.hid vo2.rd'
          have HSK := Lib.hid hvk2.rd'
          have HBA := Lib.hid vo1
          have HBK := Lib.hid hvk1
          have hlk : (S.l.filter leFF).reverse.length = (S.l.filter leFF).length := List.length_reverse
          clear vo1 vo2 vo3 hvk1 hvk2 hvk3 hi2 hdk2
          rw [ha0]
          clear ha0 a0
          have hTb := HT.out.b
          obtain ⟨Fb, Hb, hTb⟩ := hTb
          have HTA := Lib.hid hTa
          have HTB := Lib.hid hTb
          clear hTa hTb
          have hbz1 : wr.heap.size + 3 < Wz.heap.size := HBK.out.lt
          have hbz0 : wr.heap.size + 2 < Wz.heap.size := HBA.out.lt
          have hwz : wr.heap.size ≤ Wz.heap.size := by omega
          generalize hfl : S.l.filter leFF = FL at *
          have hFLn : FL.length ≤ 8192 := by
            rw [← hfl]
            have h1 := List.length_filter_le leFF S.l
            have h2 : S.n = S.l.length + S.t.length := rfl
            omega
          rw [hlk] at HBK
          have HSS := Lib.hid (fun w' (h' : Below Wz.heap.size Wz w') => And.intro ((HBA.out.below h' hbz0).cell 0) ((HBK.out.below h' hbz1).cell 0))
          go_wp2_with fail
          refine wp_region_held_drew (S := fun w' => Below Wz.heap.size Wz w') (by kernel_rfl) (Below.refl _ _).drew (fun hHeld => ?_)
          have hne0 : (FL.length != FL.length) = false := by simp
          refine wpAnyH_take (i := 0) (v := ?_) rfl (by kernel_rfl) (by kernel_rfl) (by kernel_rfl) (fun _ _ _ h => h) (Or.inl ⟨by rfl, ?_⟩) (by assumption) ?_
          rotate_left
          · (intro w hSw; obtain ⟨k0, k1⟩ := HSS.out w hSw; go_simp; try (with_reducible rfl))
          try simp only [Act.put, List.getElem_toArray, List.getElem_cons_succ, List.getElem_cons_zero, List.setIfInBounds_toArray, List.set_cons_zero, List.set_cons_succ]
          refine wpAnyH_take (i := 1) (v := ?_) rfl (by kernel_rfl) (by kernel_rfl) (by kernel_rfl) (fun _ _ _ h => h) (Or.inl ⟨by rfl, ?_⟩) (by assumption) ?_
          rotate_left
          · (intro w hSw; obtain ⟨k0, k1⟩ := HSS.out w hSw; go_simp; try (with_reducible rfl))
          try simp only [Act.put, List.getElem_toArray, List.getElem_cons_succ, List.getElem_cons_zero, List.setIfInBounds_toArray, List.set_cons_zero, List.set_cons_succ]
          refine wpAnyH_take (i := 2) (v := ?_) rfl (by kernel_rfl) (by kernel_rfl) (by kernel_rfl) (fun _ _ _ h => h) (Or.inl ⟨by rfl, ?_⟩) (by assumption) ?_
          rotate_left
          · (intro w hSw; obtain ⟨k0, k1⟩ := HSS.out w hSw; go_simp; try (with_reducible rfl))
          try simp only [Act.put, List.getElem_toArray, List.getElem_cons_succ, List.getElem_cons_zero, List.setIfInBounds_toArray, List.set_cons_zero, List.set_cons_succ]
          refine wpAnyH_take (i := 3) (v := ?_) rfl (by kernel_rfl) (by kernel_rfl) (by kernel_rfl) (fun _ _ _ h => h) (Or.inl ⟨by rfl, ?_⟩) (by assumption) ?_
          rotate_left
          · (intro w hSw; obtain ⟨k0, k1⟩ := HSS.out w hSw; go_simp; try (with_reducible rfl))
          try simp only [Act.put, List.getElem_toArray, List.getElem_cons_succ, List.getElem_cons_zero, List.setIfInBounds_toArray, List.set_cons_zero, List.set_cons_succ]
          refine wpAnyH_take (i := 4) (v := ?_) rfl (by kernel_rfl) (by kernel_rfl) (by kernel_rfl) (fun _ _ _ h => h) (Or.inl ⟨by rfl, ?_⟩) (by assumption) ?_
          rotate_left
          · (intro w hSw; obtain ⟨k0, k1⟩ := HSS.out w hSw; go_simp; try (with_reducible rfl))
          try simp only [Act.put, List.getElem_toArray, List.getElem_cons_succ, List.getElem_cons_zero, List.setIfInBounds_toArray, List.set_cons_zero, List.set_cons_succ]
          refine wpAnyH_take (i := 5) (v := ?_) rfl (by kernel_rfl) (by kernel_rfl) (by kernel_rfl) (fun _ _ _ h => h) (Or.inl ⟨by rfl, ?_⟩) (by assumption) ?_
          rotate_left
          · (intro w hSw; obtain ⟨k0, k1⟩ := HSS.out w hSw; go_simp; try (with_reducible rfl))
          try simp only [Act.put, List.getElem_toArray, List.getElem_cons_succ, List.getElem_cons_zero, List.setIfInBounds_toArray, List.set_cons_zero, List.set_cons_succ]
          refine wpAnyH_take (i := 6) (v := ?_) rfl (by kernel_rfl) (by kernel_rfl) (by kernel_rfl) (fun _ _ _ h => h) (Or.inl ⟨by rfl, ?_⟩) (by assumption) ?_
          rotate_left
          · (intro w hSw; obtain ⟨k0, k1⟩ := HSS.out w hSw; go_simp; try (with_reducible rfl))
          try simp only [Act.put, List.getElem_toArray, List.getElem_cons_succ, List.getElem_cons_zero, List.setIfInBounds_toArray, List.set_cons_zero, List.set_cons_succ]
          refine wpAnyH_take (i := 7) (v := ?_) rfl (by kernel_rfl) (by kernel_rfl) (by kernel_rfl) (fun _ _ _ h => h) (Or.inl ⟨by rfl, ?_⟩) (by assumption) ?_
          rotate_left
          · (intro w hSw; obtain ⟨k0, k1⟩ := HSS.out w hSw; go_simp; try (with_reducible rfl))
          try simp only [Act.put, List.getElem_toArray, List.getElem_cons_succ, List.getElem_cons_zero, List.setIfInBounds_toArray, List.set_cons_zero, List.set_cons_succ]
          refine wpAnyH_take (i := 9) (v := ?_) rfl (by kernel_rfl) (by kernel_rfl) (by kernel_rfl) (fun _ _ _ h => h) (Or.inl ⟨by rfl, ?_⟩) (by assumption) ?_
          rotate_left
          · (intro w hSw; obtain ⟨k0, k1⟩ := HSS.out w hSw; go_simp; try (with_reducible rfl))
          try simp only [Act.put, List.getElem_toArray, List.getElem_cons_succ, List.getElem_cons_zero, List.setIfInBounds_toArray, List.set_cons_zero, List.set_cons_succ]
          refine wpAnyH_ready (rs := [8]) (by kernel_rfl) (by simp) ?_
          refine AllReadyH.cons rfl (fun K hK => ?_) ?_
          · go_simp
            refine (mBack_any gb ⟨#[255, 255, 255, 255, 255]⟩ 0 0 _).mono ?_
            rintro e w21 ⟨rfl, hw21⟩
            have hb21 : Below Wz.heap.size Wz.drew w21 := by rw [hw21]; exact ((Below.refl Wz.heap.size Wz.drew).alloc (Nat.le_refl _) _).alloc (by simp) _
            have q8 : Blk w21 Wz.heap.size 23 #[.pointer (some ⟨gb, 0, none⟩)] := by rw [hw21]; exact (blk_at rfl).alloc _
            have q9 : Blk w21 (Wz.heap.size + 1) 45 #[.string ⟨#[255, 255, 255, 255, 255]⟩, .int .u64 0, .int .i64 0] := by rw [hw21]; exact blk_at (by simp)
            have hB21 : Below Wz.heap.size Wz w21 := hHeld.trans hb21
            refine hK.out _ _ hB21 (fun hHeld => ?_)
            clear hw21 hb21
            clear hK K
            try simp only [Act.put, List.getElem_toArray, List.getElem_cons_succ, List.getElem_cons_zero, List.setIfInBounds_toArray, List.set_cons_zero, List.set_cons_succ]
            refine wpAnyH_ready (rs := [10]) (by kernel_rfl) (by simp) ?_
            refine AllReadyH.cons rfl (fun K hK => ?_) ?_
            · go_simp
              have hgo := goes_any 34 #[.pointer (some ⟨Wz.heap.size, 0, none⟩), .pointer (some ⟨Wz.heap.size + 1, 0, none⟩)] FL.reverse (fun _ => False) Ak ck 0 w21 (enters_of Try.func34 (by kernel_rfl) rfl)
                (fun W' hb' => by
                  have hseq := back1_seq 9 (by decide) (HTB.out.below (HBZ.out.trans ((hHeld.trans (hb'.mono hHeld.size)).mono hwz))) (by omega) Wz.heap.size (Wz.heap.size + 1) fromB ((q8.below hb' q8.lt).cell 0) ⟨(q9.below hb' q9.lt).cell 0, (q9.below hb' q9.lt).cell 1, (q9.below hb' q9.lt).cell 2⟩
                  rw [HFB.out] at hseq
                  rw [hlk]
                  exact hseq)
                (fun k hk => hk.elim) (by rw [hlk]; omega) ((HSK.out.keep hHeld).more hHeld.size)
              rw [hlk] at hgo
              refine hgo.mono ?_
              rintro e w22 ⟨rfl, hb22⟩
              have hB22 := hHeld.trans (hb22.mono hHeld.size)
              refine hK.out _ _ hB22 (fun hHeld => ?_)
              clear hgo hb22 hB22 q8 q9
              clear hK K
              try simp only [Act.put, List.getElem_toArray, List.getElem_cons_succ, List.getElem_cons_zero, List.setIfInBounds_toArray, List.set_cons_zero, List.set_cons_succ]
              refine wpAnyH_take (i := 11) (v := ?_) rfl (by kernel_rfl) (by kernel_rfl) (by kernel_rfl) (fun _ _ _ h => h) (Or.inl ⟨by rfl, ?_⟩) (by assumption) ?_
              rotate_left
              · (intro w hSw; (try dsimp only at hSw); go_simp; try (with_reducible rfl))
              try simp only [Act.put, List.getElem_toArray, List.getElem_cons_succ, List.getElem_cons_zero, List.setIfInBounds_toArray, List.set_cons_zero, List.set_cons_succ]
              refine wpAnyH_take (i := 12) (v := ?_) rfl (by kernel_rfl) (by kernel_rfl) (by kernel_rfl) (fun _ _ _ h => h) (Or.inl ⟨by rfl, ?_⟩) (by assumption) ?_
              rotate_left
              · (intro w hSw; (try dsimp only at hSw); go_simp; try (with_reducible rfl))
              try simp only [Act.put, List.getElem_toArray, List.getElem_cons_succ, List.getElem_cons_zero, List.setIfInBounds_toArray, List.set_cons_zero, List.set_cons_succ]
              refine wpAnyH_done (by kernel_rfl) ?_ _
              have HH := Lib.hid hHeld
              clear hHeld hB21
              go_wp2_with fail
              obtain ⟨wv, rfl⟩ : ∃ wv : World, wv = wr := ⟨_, rfl⟩
              go_loopw [18] (fun s18 wr => ∃ k : Nat, k ≤ FL.length ∧ s18 = .int .i64 k ∧ Hid (Below Wz.heap.size Wz wr)) (fun s18 _ => FL.length - (intOf s18).toNat)
              case atStart => exact ⟨0, Nat.zero_le _, rfl, HH.out⟩
              case round =>
                clear HH
                obtain ⟨k, hk, rfl, HH⟩ := hrel
                obtain ⟨ka, kb⟩ := HSS.out wr HH.out
                by_cases hkF : k < FL.length
                · obtain ⟨b1, o1, rfl, hb1, t0, t1, t2, t3⟩ := ent_at (HSA.out.keep HH.out) hkF
                  obtain ⟨b2, o2, rfl, hb2, r0, r1, r2, r3⟩ := ent_at (HSK.out.keep HH.out) (k := FL.length - 1 - k) (by rw [hlk]; omega)
                  rw [List.getElem_reverse] at r0 r1 r2 r3
                  have hix : FL.length - 1 - (FL.length - 1 - k) = k := by omega
                  simp only [hix] at r0 r1 r2 r3
                  generalize FL[k] = ee at *
                  obtain ⟨⟨u, s, q⟩, v⟩ := ee
                  dsimp only at t0 t1 t2 t3 r0 r1 r2 r3
                  obtain ⟨m, hm⟩ : ∃ m, m = FL.length - 1 - k := ⟨_, rfl⟩
                  have hmi : (FL.length : Int) - 1 - (k : Int) = (m : Int) := by omega
                  rw [← hm] at r0 r1 r2 r3
                  have hmb : (0 : Int) ≤ (m : Int) ∧ (m : Int) < (FL.length : Int) ∧ (0 : Int) ≤ (k : Int) ∧ (k : Int) < (FL.length : Int) := by omega
                  clear hm hix
                  go_wp2_with fail
                  go_quiet (fail)
                  go_wp2_with fail
                  go_roundw
                  case rel => exact ⟨k + 1, by omega, by go_num, below_drewN HH.out _⟩
                  case measure => simp [intOf]; omega
                · obtain rfl : k = FL.length := by omega
                  have HTS : Hid (Two w.heap.size wr ga gb 0 hs [] S S) := HT.out.below ((HBZ.out.trans (HH.out.mono hwz)))
                  go_wp2_with fail
                  obtain ⟨wu, rfl⟩ : ∃ wu : World, wu = wr := ⟨_, rfl⟩
                  go_loopw [19] (fun s19 wr => ∃ k : Nat, k ≤ 10 ∧ s19 = .int .u64 k ∧ Hid (Below Wz.heap.size Wz wr)) (fun s19 _ => 10 - (intOf s19).toNat)
                  case atStart => exact ⟨0, by omega, rfl, HH.out⟩
                  case round =>
                    obtain ⟨k, hk, rfl, HJ⟩ := hrel
                    by_cases hkt : k < 10
                    · have HT1 : Hid (Two w.heap.size wr ga gb 0 hs [] S S) := HT.out.below ((HBZ.out.trans (HJ.out.mono hwz)))
                      have hG1 := mGet_two HT1.out HOK.out key k
                      have hG2 := fun w' (h : Below wr.heap.size wr w') => mGet_two (HT1.out.below h).swap HOK.out key k
                      generalize getS 0 S key k = r at *
                      obtain ⟨v, kd, is⟩ := r
                      unfold tripV at hG1 hG2
                      dsimp only at hG1 hG2
                      have HG1 := Lib.hid hG1
                      have HG2 := Lib.hid hG2
                      clear hG1 hG2
                      go_wp2_with fail
                      refine HG1.out.mono ?_
                      rintro e w31 ⟨rfl, hb31⟩
                      have HC31 := Lib.hid hb31
                      clear hb31
                      go_wp2_with fail
                      refine (HG2.out _ HC31.out).mono ?_
                      rintro e w32 ⟨rfl, hb32⟩
                      have HJ2 := Lib.hid ((HJ.out.trans (HC31.out.mono HJ.out.size)).trans (hb32.mono (Nat.le_trans HJ.out.size HC31.out.size)))
                      clear hb32
                      go_wp2_with fail
                      go_roundw
                      case rel => exact ⟨k + 1, by omega, by go_num, HJ2.out⟩
                      case measure => simp [intOf]; omega
                    · obtain rfl : k = 10 := by omega
                      have HT1 : Hid (Two w.heap.size wr ga gb 0 hs [] S S) := HT.out.below ((HBZ.out.trans (HJ.out.mono hwz)))
                      have hSn2 : S.n ≤ 1000000 := by omega
                      obtain ⟨F1, H1, hA1⟩ := HT1.out.a
                      obtain ⟨F2, H2, hA2⟩ := HT1.out.b
                      have HA1 := Lib.hid hA1
                      have HA2 := Lib.hid hA2
                      clear hA1 hA2
                      go_wp2_with fail
                      refine (mLen_any HA1.out hSn2).mono ?_
                      rintro e w41 ⟨rfl, nq1, hnq1⟩
                      have HY1 : Hid (Below wr.heap.size wr w41) := by rw [hnq1]; exact below_drewN (Below.refl _ _) nq1
                      clear hnq1 nq1
                      go_wp2_with fail
                      refine (mLen_any (HA2.out.below HY1.out) hSn2).mono ?_
                      rintro e w42 ⟨rfl, nq2, hnq2⟩
                      have HY2 : Hid (Below wr.heap.size wr w42) := by rw [hnq2]; exact below_drewN HY1.out nq2
                      clear hnq2 nq2
                      go_wp2_with fail
                      refine (mSize_any (HA1.out.below HY2.out)).mono ?_
                      rintro e w43 ⟨rfl, rfl⟩
                      go_wp2_with fail
                      refine (mSize_any (HA2.out.below HY2.out)).mono ?_
                      rintro e w44 ⟨rfl, rfl⟩
                      go_wp2_with fail
                      refine (mTombs_any (HA1.out.below HY2.out) hSn2).mono ?_
                      rintro e w45 ⟨v1, rfl, hb45, ho45⟩
                      obtain ⟨At, ct, rfl, -⟩ := ho45.slice_
                      have HY5 := Lib.hid (HY2.out.trans (hb45.mono HY2.out.size))
                      have HO5 := Lib.hid ho45.rd'
                      clear hb45 ho45
                      go_wp2_with fail
                      refine (mTombs_any (HA2.out.below HY5.out) hSn2).mono ?_
                      rintro e w46 ⟨v2, rfl, hb46, ho46⟩
                      obtain ⟨Au, cu, rfl, -⟩ := ho46.slice_
                      have HY6 := Lib.hid (HY5.out.trans (hb46.mono HY5.out.size))
                      have HO6 := Lib.hid (HO5.out.next hb46)
                      have HP6 := Lib.hid ho46.rd'
                      clear hb46 ho46
                      go_wp2_with fail
                      have hTl : S.t.length ≤ 140737488351240 := by have : S.n = S.l.length + S.t.length := rfl; omega
                      refine (tombs07_yes S.t At Au ct cu w46.heap.size w46.heap.size w46 hTl HO6.out HP6.out (Nat.le_refl _) (Nat.le_refl _)).mono ?_
                      rintro e w47 ⟨rfl, hb47⟩
                      have HY7 := Lib.hid (HY6.out.trans (hb47.mono HY6.out.size))
                      clear hb47
                      go_wp2_with fail
                      refine (lives07_any _).mono ?_
                      rintro e w48 ⟨rfl, hb48⟩
                      have HY8 := Lib.hid (HY7.out.trans (hb48.mono HY7.out.size))
                      clear hb48
                      go_wp2_with fail
                      have hbZ8 : Below Wz.heap.size Wz w48 := HJ.out.trans (HY8.out.mono HJ.out.size)
                      have hd28 : w48.heap[d2]? = some (.deferred (some [])) := (hbZ8.block d2 (Array.getElem?_eq_some_iff.1 HD2.out).1).trans HD2.out
                      have hd18 : (w48.putObj d2 (.deferred none)).heap[d]? = some (.deferred (some [])) := (World.putObj_heap_other (by omega)).trans ((hbZ8.block d (Array.getElem?_eq_some_iff.1 HD1.out).1).trans HD1.out)
                      have hbl : Below w.heap.size w w48 := (HB.out.trans (HBZ.out.mono HB.out.size)).trans (hbZ8.mono (Nat.le_trans HB.out.size hwz))
                      have hdw : w.heap.size ≤ d ∧ w.heap.size ≤ d2 := by have := HB.out.size; omega
                      refine ⟨by simp, .inl ⟨_, _, rfl, run_takeDeferred hd28, ?_⟩⟩
                      refine ⟨by simp, .inl ⟨_, _, rfl, run_takeDeferred hd18, ?_⟩⟩
                      exact ⟨_, results_tmp rfl _ _ _, rfl, below_putObj (below_putObj hbl d2 _ hdw.2) d _ hdw.1⟩
            exact AllReadyH.nil
          exact AllReadyH.nil
end Go.Proofs.Ytodnojpolkdlmaa
