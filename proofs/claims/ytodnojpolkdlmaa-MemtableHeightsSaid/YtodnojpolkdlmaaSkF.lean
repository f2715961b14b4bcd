/-
  A skiplist: put.
-/
import Derived.Test.YtodnojpolkdlmaaSkD
import Derived.Test.YtodnojpolkdlmaaSkE
import Derived.Deep.RegionHeld3
import Derived.Deep.DrawnRows
import Derived.Deep.DeepCutAuto
namespace Go.Proofs.Ytodnojpolkdlmaa
set_option linter.unusedSimpArgs false
set_option linter.unusedVariables false
open Go.RowKit Go.IntWalk
attribute [local go_sem ↓] Go.wp_at_zero Go.wp_at_succ

theorem nxtB_first {Q : List Nd} (h : ∀ n ∈ Q, 1 ≤ n.h) : nxtB 0 Q = (Q.head?).map (·.nb) := by
  cases Q with
  | nil => rfl
  | cons q Q => show (if 0 < q.h then _ else _) = _; rw [if_pos (show 0 < q.h from h q (List.mem_cons_self ..))]; rfl
theorem Nodes.h1 {w : World} : ∀ {S : List Nd}, Nodes w S → ∀ n ∈ S, 1 ≤ n.h
  | _ :: _, h, m, hm => by
    rcases List.mem_cons.1 hm with rfl | hm
    · exact h.1.2.2.1
    · exact Nodes.h1 h.2 m hm
set_option maxHeartbeats 4000000 in
set_option maxRecDepth 100000 in
theorem mPut_there (w : World) (g hb : Nat) (how : Int) (hv hu hs hk hval tv size first last : Value) (P Q : List Nd) (q1 : Nd) (x : E)
    (ht : Tbl w g hb how hv hu hs hk hval tv size first last (P ++ (q1 :: Q))) (hP : ∀ n ∈ P, ordK how n.e.k x.k < 0) (hQ : ∀ n ∈ q1 :: Q, 0 ≤ ordK how n.e.k x.k) (he : q1.e.k = x.k) :
    Calls Try.prog 27 #[.pointer (some ⟨g, 0, none⟩), .agg #[.string x.k.u, .int .u64 x.k.s, .int .i64 x.k.k, .string x.v]] w fun e w' => e = .returned (.int .i64 7) ∧ Below w.heap.size w w' := by
  obtain ⟨Q0, hQ0⟩ : ∃ Q0, q1 :: Q = Q0 := ⟨_, rfl⟩
  rw [hQ0] at ht hQ
  have hqk : Blk w q1.nb 66 (nodeC q1) := by
    have := ht.nodes
    rw [← hQ0] at this
    exact (Nodes.tail this).1.1
  have HQK := Lib.hid hqk
  have hqe : Q0.head?.map (·.nb) = some q1.nb := by rw [← hQ0]; rfl
  have HE := Lib.hid he
  clear he hqk hQ0
  obtain ⟨Q, rfl⟩ : ∃ Q', Q' = Q0 := ⟨_, rfl⟩
  have HT := Lib.hid ht
  have hlt := ht.blk.lt
  have hA := fun w' (hb' : Below w.heap.size w w') => mAhead_any w' g hb how hv hu hs hk hval tv size first last P Q x.k ⟨ht.blk.below hb' ht.blk.lt, ht.row.below hb' ht.row.lt, ht.nodes.below hb' ht.nodes.lt⟩ hP hQ
  have hI : NodesI w ⟨0, 0, 0, x⟩ Q 0 P := NodesI.start ht.nodes
  obtain ⟨ab, ao, hh, hl1, hl2, hl3, hl4, -⟩ := lastI (i := 0) g 2 hb 12 hI (by omega) (ht.blk.cell 6) ((ht.row.cell 0).trans (rowN_at _ 12 0 (by omega))) (ht.row.frozen 0)
  have hx1 := World.block_lt_of_cell? _ _ hl4
  have hx2 := World.block_lt_of_cell? _ _ hl2
  rw [nxtB_first (fun n hn => ht.nodes.h1 n (List.mem_append_right _ hn))] at hl4
  generalize lastX hb 0 P = xl at *
  obtain ⟨⟨u, s, q⟩, v⟩ := x
  dsimp only at hA
  have HA := Lib.hid hA
  have HL1 := Lib.hid hl1
  have hbx : Below w.heap.size w (w.alloc (.cells #[.string u, .int .u64 s, .int .i64 q, .string v] 47)) := (Below.refl _ w).alloc (Nat.le_refl _) _
  have hkx := Blk.new w 47 #[.string u, .int .u64 s, .int .i64 q, .string v]
  have HBX := Lib.hid hbx
  have HKX := Lib.hid hkx
  clear ht hA hl1 hI hbx hkx
  go_enter Try.func27, Try.ntmps27
  go_wp2_with fail
  refine (HA.out _ HBX.out).mono ?_
  rintro e w1 ⟨ob, rfl, hob, hb1, hk1⟩
  simp only [World.size_alloc] at hob hb1
  have HB1 := Lib.hid (HBX.out.trans (hb1.mono (by simp)))
  have hkx1 := HKX.out.below (B := w.heap.size + 1) hb1 (by omega)
  have HKX1 := Lib.hid hkx1
  have HO1 := Lib.hid hk1
  have co : w1.cell? ⟨ob, 0, none⟩ = some (.pointer (some ⟨ab, ao, none⟩)) := by rw [hk1.cell 0, lastRow_get _ _ _ _ (by omega), if_pos (by omega), HL1.out]
  have d2 := (HB1.out.cell (p := ⟨ab, ao + 4, none⟩) hx2).trans hl2
  have d4 := (HB1.out.cell (p := ⟨xl, 0, none⟩) hx1).trans hl4
  clear hb1 hkx1 hk1 HA HBX HKX
  rw [hqe] at d4
  simp only [ptrV] at d4
  have hql := HQK.out.lt
  have e0 := (HB1.out.cell (p := ⟨q1.nb, 0, none⟩) hql).trans (HQK.out.cell 0)
  have e1 := (HB1.out.cell (p := ⟨q1.nb, 1, none⟩) hql).trans (HQK.out.cell 1)
  have e2 := (HB1.out.cell (p := ⟨q1.nb, 2, none⟩) hql).trans (HQK.out.cell 2)
  have he := HE.out
  simp only [nodeC, List.getElem?_toArray, List.getElem?_cons_zero, List.getElem?_cons_succ] at e0 e1 e2
  rw [he] at e0 e1 e2
  have x0 := HKX1.out.cell 0
  have x1 := HKX1.out.cell 1
  have x2 := HKX1.out.cell 2
  simp only [List.getElem?_toArray, List.getElem?_cons_zero, List.getElem?_cons_succ] at x0 x1 x2
  clear he hqe
  go_wp2_with fail
  go_quiet (fail)
  go_wp2_with fail
  go_ret
  exact ⟨rfl, below_drewN HB1.out _⟩
set_option maxHeartbeats 4000000 in
set_option maxRecDepth 100000 in
theorem mPut_new (w : World) (g hb hc B : Nat) (hAd : Option Addr) (hl : List UInt8) (how : Int) (hu hs hk hval tv size first last : Value) (P Q : List Nd) (x : E)
    (ht : Tbl w g hb how (.slice hAd hl.length hc) hu hs hk hval tv size first last (P ++ Q)) (hP : ∀ n ∈ P, ordK how n.e.k x.k < 0) (hQ : ∀ n ∈ Q, 0 ≤ ordK how n.e.k x.k) (hne : ∀ q1 Q1, Q = q1 :: Q1 → q1.e.k ≠ x.k)
    (hnd : (g :: hb :: blksOf (P ++ Q)).Nodup) (hn : (P ++ Q).length ≤ 1000000) (hll : hl.length ≤ 1000000000000000) (hbs : Bs w B hAd hl) (hB : B ≤ w.heap.size) :
    Calls Try.prog 27 #[.pointer (some ⟨g, 0, none⟩), .agg #[.string x.k.u, .int .u64 x.k.s, .int .i64 x.k.k, .string x.v]] w fun e w' => e = .returned (.int .i64 0) ∧ ∃ m : Nd, m.e = x ∧ w.heap.size ≤ m.nb ∧ w.heap.size ≤ m.xb ∧ m.nb ≠ m.xb ∧
      Tbl w' g hb how (.slice hAd hl.length hc) hu hs hk hval tv size first last (P ++ m :: Q) ∧ Chg w w' (skF g hb (P ++ Q)) := by
  have HNE := Lib.hid hne
  have HND := Lib.hid hnd
  have HBS := Lib.hid hbs
  clear hne hnd hbs
  obtain ⟨hv, hhv⟩ : ∃ hv, hv = Value.slice hAd hl.length hc := ⟨_, rfl⟩
  rw [← hhv] at ht ⊢
  have HHV := Lib.hid hhv
  clear hhv
  have HT := Lib.hid ht
  have hlt := ht.blk.lt
  have hA := fun w' (hb' : Below w.heap.size w w') => mAhead_any w' g hb how hv hu hs hk hval tv size first last P Q x.k ⟨ht.blk.below hb' ht.blk.lt, ht.row.below hb' ht.row.lt, ht.nodes.below hb' ht.nodes.lt⟩ hP hQ
  have hI : NodesI w ⟨0, 0, 0, x⟩ Q 0 P := NodesI.start ht.nodes
  obtain ⟨ab, ao, hh, hl1, hl2, hl3, hl4, -⟩ := lastI (i := 0) g 2 hb 12 hI (by omega) (ht.blk.cell 6) ((ht.row.cell 0).trans (rowN_at _ 12 0 (by omega))) (ht.row.frozen 0)
  have hx1 := World.block_lt_of_cell? _ _ hl4
  have hx2 := World.block_lt_of_cell? _ _ hl2
  rw [nxtB_first (fun n hn => ht.nodes.h1 n (List.mem_append_right _ hn))] at hl4
  generalize lastX hb 0 P = xl at *
  obtain ⟨⟨u, s, q⟩, v⟩ := x
  dsimp only at hA
  have HA := Lib.hid hA
  have HL1 := Lib.hid hl1
  have hbx : Below w.heap.size w (w.alloc (.cells #[.string u, .int .u64 s, .int .i64 q, .string v] 47)) := (Below.refl _ w).alloc (Nat.le_refl _) _
  have hkx := Blk.new w 47 #[.string u, .int .u64 s, .int .i64 q, .string v]
  have HBX := Lib.hid hbx
  have HKX := Lib.hid hkx
  clear ht hA hl1 hI hbx hkx
  go_enter Try.func27, Try.ntmps27
  go_wp2_with fail
  refine (HA.out _ HBX.out).mono ?_
  rintro e w1 ⟨ob, rfl, hob, hb1, hk1⟩
  simp only [World.size_alloc] at hob hb1
  have HB1 := Lib.hid (HBX.out.trans (hb1.mono (by simp)))
  have hkx1 := HKX.out.below (B := w.heap.size + 1) hb1 (by omega)
  have HKX1 := Lib.hid hkx1
  have HO1 := Lib.hid hk1
  have co : w1.cell? ⟨ob, 0, none⟩ = some (.pointer (some ⟨ab, ao, none⟩)) := by rw [hk1.cell 0, lastRow_get _ _ _ _ (by omega), if_pos (by omega), HL1.out]
  have d2 := (HB1.out.cell (p := ⟨ab, ao + 4, none⟩) hx2).trans hl2
  have d4 := (HB1.out.cell (p := ⟨xl, 0, none⟩) hx1).trans hl4
  clear hb1 hkx1 hk1 HA HBX HKX
  go_upto_region 3 with fail
  go_cut [32] (fun s32 wx => s32 = .bool false ∧ ∃ nq, wx = w1.drewN nq)
  case first =>
    have x0 := HKX1.out.cell 0
    have x1 := HKX1.out.cell 1
    have x2 := HKX1.out.cell 2
    simp only [List.getElem?_toArray, List.getElem?_cons_zero, List.getElem?_cons_succ] at x0 x1 x2
    rcases Q with _ | ⟨q1, Q1⟩
    · simp only [List.head?_nil, Option.map_none, ptrV] at d4 ⊢
      clear hQ
      go_quiet (fail)
      go_wp2_with fail
      go_meet
      exact ⟨rfl, _, rfl⟩
    · simp only [List.head?_cons, Option.map_some, ptrV] at d4 ⊢
      have hqk : Blk w q1.nb 66 (nodeC q1) := (Nodes.tail HT.out.nodes).1.1
      have hql := hqk.lt
      have e0 := (HB1.out.cell (p := ⟨q1.nb, 0, none⟩) hql).trans (hqk.cell 0)
      have e1 := (HB1.out.cell (p := ⟨q1.nb, 1, none⟩) hql).trans (hqk.cell 1)
      have e2 := (HB1.out.cell (p := ⟨q1.nb, 2, none⟩) hql).trans (hqk.cell 2)
      simp only [nodeC, List.getElem?_toArray, List.getElem?_cons_zero, List.getElem?_cons_succ] at e0 e1 e2
      have hne := HNE.out q1 Q1 rfl
      clear hqk hQ
      obtain ⟨nb1, xb1, h1, ⟨⟨u', s', q'⟩, v'⟩⟩ := q1
      dsimp only at e0 e1 e2 hne
      by_cases g1 : u'.toList = u.toList
      · by_cases g2 : s' = s
        · have g3 : ¬ q' = q := fun g3 => hne (K.ext' (by rw [ByteArray.toList_eq, ByteArray.toList_eq] at g1; exact data_inj g1) g2 g3)
          clear hne
          go_quiet (fail)
          go_wp2_with fail
          go_meet
          exact ⟨rfl, _, rfl⟩
        · clear hne
          go_quiet (fail)
          go_wp2_with fail
          go_meet
          exact ⟨rfl, _, rfl⟩
      · clear hne
        go_quiet (fail)
        go_wp2_with fail
        go_meet
        exact ⟨rfl, _, rfl⟩
  case rest =>
    obtain ⟨rfl, nq, rfl⟩ := hcut
    have hb2 := below_drewN (Below.refl w1.heap.size w1) nq
    have HB2 := Lib.hid (HB1.out.trans (hb2.mono HB1.out.size))
    have HKX2 := Lib.hid (HKX1.out.below hb2 HKX1.out.lt)
    have HO2 := Lib.hid (HO1.out.below hb2 HO1.out.lt)
    generalize w1.drewN nq = w2 at *
    clear hb2 HB1 HKX1 HO1 co d2 d4 hl2 hl4 hx1 hx2 HL1 hQ hP HNE
    have hSS : ∀ w', Below w2.heap.size w2 w' → w'.cell? ⟨w.heap.size, 0, none⟩ = some (.string u) ∧ w'.cell? ⟨w.heap.size, 1, none⟩ = some (.int .u64 s) ∧ w'.cell? ⟨w.heap.size, 2, none⟩ = some (.int .i64 q) ∧ w'.cell? ⟨w.heap.size, 3, none⟩ = some (.string v) := fun w' h' => by
      have hX := HKX2.out.below h' HKX2.out.lt
      exact ⟨hX.cell 0, hX.cell 1, hX.cell 2, hX.cell 3⟩
    have HSS := Lib.hid hSS
    have hHt := fun w' (h' : Below w.heap.size w w') => mHeight_any w' g (P ++ Q).length B hc hAd hl (((HT.out.blk.below h' hlt).cell 1).trans (by rw [HHV.out]; rfl)) ((HT.out.blk.below h' hlt).cell 7) (by omega) hll (HBS.out.keep (h'.mono hB))
    have HH := Lib.hid hHt
    clear hSS hHt
    go_wp2_with fail
    refine wp_region_held_drew (S := fun w' => Below w2.heap.size w2 w') (by kernel_rfl) (Below.refl _ _).drew (fun hHeld => ?_)
    refine wpAnyH_take (i := 0) (v := ?_) rfl (by kernel_rfl) (by kernel_rfl) (by kernel_rfl) (fun _ _ _ h => h) (Or.inl ⟨by rfl, ?_⟩) (by assumption) ?_
    rotate_left
    · (intro w hSw; obtain ⟨k0, k1, k2, k3⟩ := HSS.out w hSw; go_simp; try (with_reducible rfl))
    try simp only [Act.put, List.getElem_toArray, List.getElem_cons_succ, List.getElem_cons_zero, List.setIfInBounds_toArray, List.set_cons_zero, List.set_cons_succ]
    refine wpAnyH_take (i := 1) (v := ?_) rfl (by kernel_rfl) (by kernel_rfl) (by kernel_rfl) (fun _ _ _ h => h) (Or.inl ⟨by rfl, ?_⟩) (by assumption) ?_
    rotate_left
    · (intro w hSw; obtain ⟨k0, k1, k2, k3⟩ := HSS.out w hSw; go_simp; try (with_reducible rfl))
    try simp only [Act.put, List.getElem_toArray, List.getElem_cons_succ, List.getElem_cons_zero, List.setIfInBounds_toArray, List.set_cons_zero, List.set_cons_succ]
    refine wpAnyH_ready (rs := [2]) (by kernel_rfl) (by simp) ?_
    refine AllReadyH.cons rfl (fun K hK => ?_) ?_
    · go_simp
      refine (HH.out _ (HB2.out.trans (hHeld.mono HB2.out.size))).mono ?_
      rintro e w3 ⟨h, rfl, hh1, hh2, hb3⟩
      have hB3 := hHeld.trans (hb3.mono hHeld.size)
      refine hK.out _ _ hB3 (fun hHeld => ?_)
      clear hb3 hB3
      clear hK K
      try simp only [Act.put, List.getElem_toArray, List.getElem_cons_succ, List.getElem_cons_zero, List.setIfInBounds_toArray, List.set_cons_zero, List.set_cons_succ]
      have hmk := make_nodes h (by omega)
      refine wpAnyH_ready (rs := [3]) (by kernel_rfl) (by simp) ?_
      refine AllReadyH.cons rfl (fun K hK => ?_) ?_
      · go_simp
        refine hK.out _ _ (hHeld.alloc hHeld.size _) (fun hHeld2 => ?_)
        clear hmk
        clear hK K
        try simp only [Act.put, List.getElem_toArray, List.getElem_cons_succ, List.getElem_cons_zero, List.setIfInBounds_toArray, List.set_cons_zero, List.set_cons_succ]
        refine wpAnyH_take (i := 4) (v := ?_) rfl (by kernel_rfl) (by kernel_rfl) (by kernel_rfl) (fun _ _ _ h => h) (Or.inl ⟨by rfl, ?_⟩) (by assumption) ?_
        rotate_left
        · (intro w hSw; (try dsimp only at hSw); go_simp; try (with_reducible rfl))
        try simp only [Act.put, List.getElem_toArray, List.getElem_cons_succ, List.getElem_cons_zero, List.setIfInBounds_toArray, List.set_cons_zero, List.set_cons_succ]
        refine wpAnyH_ready (rs := [5]) (by kernel_rfl) (by simp) ?_
        refine AllReadyH.cons rfl (fun K hK => ?_) ?_
        · go_simp
          refine hK.out _ _ (hHeld2.alloc hHeld2.size _) (fun hHeld3 => ?_)
          clear hK K
          try simp only [Act.put, List.getElem_toArray, List.getElem_cons_succ, List.getElem_cons_zero, List.setIfInBounds_toArray, List.set_cons_zero, List.set_cons_succ]
          refine wpAnyH_take (i := 6) (v := ?_) rfl (by kernel_rfl) (by kernel_rfl) (by kernel_rfl) (fun _ _ _ h => h) (Or.inl ⟨by rfl, ?_⟩) (by assumption) ?_
          rotate_left
          · (intro w hSw; (try dsimp only at hSw); go_simp; try (with_reducible rfl))
          try simp only [Act.put, List.getElem_toArray, List.getElem_cons_succ, List.getElem_cons_zero, List.setIfInBounds_toArray, List.set_cons_zero, List.set_cons_succ]
          refine wpAnyH_done (by kernel_rfl) ?_ _
          have hz3 := hHeld.size
          have hz2 := HB2.out.size
          have hB3 := HB2.out.trans (hHeld.mono HB2.out.size)
          have hb5 : Below w3.heap.size w3 ((w3.alloc (.cells (nilRow h) 77)).alloc (.cells #[.string u, .int .u64 s, .int .i64 q, .string v, .slice (some ⟨w3.heap.size, 0, none⟩) h h] 66)) := ((Below.refl _ _).alloc (Nat.le_refl _) _).alloc (by simp) _
          have hB5 := hB3.trans (hb5.mono hB3.size)
          have hnx := (Blk.new w3 77 (nilRow h)).alloc (.cells #[.string u, .int .u64 s, .int .i64 q, .string v, .slice (some ⟨w3.heap.size, 0, none⟩) h h] 66)
          have hnd := Blk.new (w3.alloc (.cells (nilRow h) 77)) 66 #[.string u, .int .u64 s, .int .i64 q, .string v, .slice (some ⟨w3.heap.size, 0, none⟩) h h]
          rw [World.size_alloc] at hnd
          have hoz := HO2.out.lt
          have hob2 := (HO2.out.below hHeld hoz).below hb5 (by omega)
          obtain ⟨m, hm⟩ : ∃ m : Nd, m = ⟨w3.heap.size + 1, w3.heap.size, h, ⟨⟨u, s, q⟩, v⟩⟩ := ⟨_, rfl⟩
          have hmx : m.xb = w3.heap.size := by rw [hm]
          have hmn : m.nb = w3.heap.size + 1 := by rw [hm]
          have hmh : m.h = h := by rw [hm]
          have hps : PutS w ((w3.alloc (.cells (nilRow h) 77)).alloc (.cells #[.string u, .int .u64 s, .int .i64 q, .string v, .slice (some ⟨w3.heap.size, 0, none⟩) h h] 66)) g hb ob #[.int .i64 how, hv, hu, hs, hk, hval, .slice (some ⟨hb, 0, none⟩) 12 12, .int .i64 ((P ++ Q).length : Nat), tv, size, first, last] m P Q 0 := by
            refine ⟨HT.out.blk.below hB5 hlt, ?_, NodesI.start (HT.out.nodes.below hB5 HT.out.nodes.lt), ?_, ?_, hob2, Chg.below hB5⟩
            · rw [rowI_zero]; exact HT.out.row.below hB5 HT.out.row.lt
            · rw [hm]; exact hnd
            · rw [newRow_zero, hmx, hmh]; exact hnx
          have HPS := Lib.hid hps
          clear hps hnd hnx hb5 hB5
          generalize ((w3.alloc (.cells (nilRow h) 77)).alloc (.cells #[.string u, .int .u64 s, .int .i64 q, .string v, .slice (some ⟨w3.heap.size, 0, none⟩) h h] 66)) = w5 at HPS ⊢
          have hme : m.e = ⟨⟨u, s, q⟩, v⟩ := by rw [hm]
          have HM := Lib.hid (And.intro hmx (And.intro hmn (And.intro hmh hme)))
          rw [← hmn, ← hmx, ← hmh]
          have hm1 : 1 ≤ m.h ∧ m.h ≤ 12 := by omega
          have hox : ob < m.xb ∧ m.xb < m.nb ∧ w.heap.size ≤ ob := by omega
          have hltF : ∀ k, skF g hb (P ++ Q) k → k < w.heap.size := fun k hk => by
            rcases hk with rfl | rfl | hk
            · exact hlt
            · exact HT.out.row.lt
            · unfold blksOf at hk
              obtain ⟨n, hn, hk⟩ := List.mem_flatMap.1 hk
              have := HT.out.nodes.lt n hn
              simp at hk
              rcases hk with rfl | rfl
              · exact this.1
              · exact this.2
          have HLF := Lib.hid hltF
          have HMM := Lib.hid hm
          clear hltF hme hmx hmn hmh hob2 hoz hB3 hHeld hHeld2 hHeld3 HSS HH HO2 HKX2 HB2 hm hz2 hz3 hh1 hh2
          have d4 := HPS.out.nd.cell 4
          simp only [nodeC, List.getElem?_toArray, List.getElem?_cons_zero, List.getElem?_cons_succ] at d4
          go_wp2_with fail
          go_loopw [8, 44] (fun _ s44 wr => ∃ i : Nat, i ≤ m.h ∧ s44 = .int .i64 i ∧ Hid (PutS w wr g hb ob #[.int .i64 how, hv, hu, hs, hk, hval, .slice (some ⟨hb, 0, none⟩) 12 12, .int .i64 ((P ++ Q).length : Nat), tv, size, first, last] m P Q i)) (fun _ s44 _ => m.h - (intOf s44).toNat)
          case atStart => exact ⟨0, Nat.zero_le _, rfl, HPS.out⟩
          case round =>
            clear HPS d4
            obtain ⟨i, hi, rfl, HP⟩ := hrel
            by_cases him : i < m.h
            · obtain ⟨ab, ao, hh, l1, l2, l3, l4, l5⟩ := lastI (i := i) g 2 hb 12 HP.out.nodes (by omega) (HP.out.tab.cell 6) ((HP.out.row.cell i).trans (by rw [rowI_get _ _ _ _ _ _ (by omega), if_neg (Nat.lt_irrefl i)])) (HP.out.row.frozen i)
              have hstep := HP.out.step him (by omega) HND.out HLF.out hox.2.2 hox.1 hox.2.1
              have hlxF : lastX hb i P < w.heap.size := by
                rcases lastX_mem (i := i) P hb with e | ⟨n, hn', e⟩
                · rw [e]; exact HLF.out _ (.inr (.inl rfl))
                · rw [e]; exact HLF.out _ (.inr (.inr (mem_blks (List.mem_append_left Q hn')).2))
              have habx : ab ≠ m.xb := fun e => by
                rw [e] at l2
                exact newRow_noslice _ _ _ _ _ _ _ ((HP.out.nx.cell _).symm.trans l2)
              have k1 : wr.cell? ⟨m.nb, 4, none⟩ = some (.slice (some ⟨m.xb, 0, none⟩) m.h m.h) := HP.out.nd.cell 4
              have k2 : wr.cell? ⟨ob, i, none⟩ = some (.pointer (some ⟨ab, ao, none⟩)) := by rw [HP.out.out.cell i, lastRow_get _ _ _ _ (by omega), if_pos (Nat.zero_le i), l1]
              have kx : wr.cell? ⟨m.xb, i, none⟩ = some (.pointer none) := by
                rw [HP.out.nx.cell i]; unfold newRow; simp [him]
              have fx := HP.out.nx.frozen i
              generalize lastX hb i P = lx at *
              obtain ⟨pv, hpv⟩ : ∃ pv : Option Addr, ptrV (nxtB i Q) = .pointer pv := by
                cases nxtB i Q
                · exact ⟨_, rfl⟩
                · exact ⟨_, rfl⟩
              rw [hpv] at hstep l4
              clear hpv
              have hbk : ∀ w' : World, (∀ k, k ≠ m.xb → w'.heap[k]? = wr.heap[k]?) → w'.cell? ⟨m.nb, 4, none⟩ = some (.slice (some ⟨m.xb, 0, none⟩) m.h m.h) ∧ w'.cell? ⟨ob, i, none⟩ = some (.pointer (some ⟨ab, ao, none⟩)) ∧
                  w'.cell? ⟨ab, ao + 4, none⟩ = some (.slice (some ⟨lx, 0, none⟩) hh hh) ∧ w'.cell? ⟨lx, i, none⟩ = some (.pointer pv) ∧ w'.frozen? ⟨lx, i, none⟩ = false := fun w' h' =>
                ⟨(World.cell?_of_block (a := ⟨m.nb, 4, none⟩) (h' m.nb (by omega))).trans k1, (World.cell?_of_block (a := ⟨ob, i, none⟩) (h' ob (by omega))).trans k2, (World.cell?_of_block (a := ⟨ab, ao + 4, none⟩) (h' ab habx)).trans l2,
                  (World.cell?_of_block (a := ⟨lx, i, none⟩) (h' lx (by omega))).trans l4, (World.frozen?_of_block (a := ⟨lx, i, none⟩) (h' lx (by omega))).trans l5⟩
              have HBK := Lib.hid hbk
              have HST := Lib.hid hstep
              have hib : (0 : Int) ≤ (i : Int) ∧ (i : Int) < (m.h : Int) ∧ (i : Int) < (hh : Int) ∧ (i : Int) < 12 := by omega
              clear hbk hstep l1 l2 l4 l5 k1 k2 hlxF
              go_wp2_with fail
              refine wp_region_held_drew (S := fun w' => ∀ k, k ≠ m.xb → w'.heap[k]? = wr.heap[k]?) (by kernel_rfl) (fun _ _ => rfl) (fun hHeld => ?_)
              refine wpAnyH_take (i := 0) (v := ?_) rfl (by kernel_rfl) (by kernel_rfl) (by kernel_rfl) (fun _ _ _ h => h) (Or.inl ⟨by rfl, ?_⟩) (by assumption) ?_
              rotate_left
              · (intro w hSw; obtain ⟨k1, k2, k3, k4, k5⟩ := HBK.out w hSw; go_simp; try (with_reducible rfl))
              try simp only [Act.put, List.getElem_toArray, List.getElem_cons_succ, List.getElem_cons_zero, List.setIfInBounds_toArray, List.set_cons_zero, List.set_cons_succ]
              refine wpAnyH_take (i := 1) (v := ?_) rfl (by kernel_rfl) (by kernel_rfl) (by kernel_rfl) (fun _ _ _ h => h) (Or.inl ⟨by rfl, ?_⟩) (by assumption) ?_
              rotate_left
              · (intro w hSw; obtain ⟨k1, k2, k3, k4, k5⟩ := HBK.out w hSw; go_simp; try (with_reducible rfl))
              try simp only [Act.put, List.getElem_toArray, List.getElem_cons_succ, List.getElem_cons_zero, List.setIfInBounds_toArray, List.set_cons_zero, List.set_cons_succ]
              refine wpAnyH_take (i := 2) (v := ?_) rfl (by kernel_rfl) (by kernel_rfl) (by kernel_rfl) (fun _ _ _ h => h) (Or.inl ⟨by rfl, ?_⟩) (by assumption) ?_
              rotate_left
              · (intro w hSw; obtain ⟨k1, k2, k3, k4, k5⟩ := HBK.out w hSw; go_simp; try (with_reducible rfl))
              try simp only [Act.put, List.getElem_toArray, List.getElem_cons_succ, List.getElem_cons_zero, List.setIfInBounds_toArray, List.set_cons_zero, List.set_cons_succ]
              refine wpAnyH_take (i := 3) (v := ?_) rfl (by kernel_rfl) (by kernel_rfl) (by kernel_rfl) (fun _ _ _ h => h) (Or.inl ⟨by rfl, ?_⟩) (by assumption) ?_
              rotate_left
              · (intro w hSw; obtain ⟨k1, k2, k3, k4, k5⟩ := HBK.out w hSw; go_simp; try (with_reducible rfl))
              try simp only [Act.put, List.getElem_toArray, List.getElem_cons_succ, List.getElem_cons_zero, List.setIfInBounds_toArray, List.set_cons_zero, List.set_cons_succ]
              refine wpAnyH_take (i := 4) (v := ?_) rfl (by kernel_rfl) (by kernel_rfl) (by kernel_rfl) (fun _ _ _ h => h) (Or.inl ⟨by rfl, ?_⟩) (by assumption) ?_
              rotate_left
              · (intro w hSw; obtain ⟨k1, k2, k3, k4, k5⟩ := HBK.out w hSw; go_simp; try (with_reducible rfl))
              try simp only [Act.put, List.getElem_toArray, List.getElem_cons_succ, List.getElem_cons_zero, List.setIfInBounds_toArray, List.set_cons_zero, List.set_cons_succ]
              refine wpAnyH_take (i := 5) (v := ?_) rfl (by kernel_rfl) (by kernel_rfl) (by kernel_rfl) (fun _ _ _ h => h) (Or.inl ⟨by rfl, ?_⟩) (by assumption) ?_
              rotate_left
              · (intro w hSw; obtain ⟨k1, k2, k3, k4, k5⟩ := HBK.out w hSw; go_simp; try (with_reducible rfl))
              try simp only [Act.put, List.getElem_toArray, List.getElem_cons_succ, List.getElem_cons_zero, List.setIfInBounds_toArray, List.set_cons_zero, List.set_cons_succ]
              refine wpAnyH_take (i := 6) (v := ?_) rfl (by kernel_rfl) (by kernel_rfl) (by kernel_rfl) (fun _ _ _ h => h) (Or.inl ⟨by rfl, ?_⟩) (by assumption) ?_
              rotate_left
              · (intro w hSw; obtain ⟨k1, k2, k3, k4, k5⟩ := HBK.out w hSw; go_simp; try (with_reducible rfl))
              try simp only [Act.put, List.getElem_toArray, List.getElem_cons_succ, List.getElem_cons_zero, List.setIfInBounds_toArray, List.set_cons_zero, List.set_cons_succ]
              refine wpAnyH_take (i := 7) (v := ?_) rfl (by kernel_rfl) (by kernel_rfl) (by kernel_rfl) (fun _ _ _ h => h) (Or.inl ⟨by rfl, ?_⟩) (by assumption) ?_
              rotate_left
              · (intro w hSw; obtain ⟨k1, k2, k3, k4, k5⟩ := HBK.out w hSw; go_simp; try (with_reducible rfl))
              try simp only [Act.put, List.getElem_toArray, List.getElem_cons_succ, List.getElem_cons_zero, List.setIfInBounds_toArray, List.set_cons_zero, List.set_cons_succ]
              refine wpAnyH_take (i := 8) (v := ?_) rfl (by kernel_rfl) (by kernel_rfl) (by kernel_rfl) (fun _ _ _ h => h) (Or.inl ⟨by rfl, ?_⟩) (by assumption) ?_
              rotate_left
              · (intro w hSw; obtain ⟨k1, k2, k3, k4, k5⟩ := HBK.out w hSw; go_simp; try (with_reducible rfl))
              try simp only [Act.put, List.getElem_toArray, List.getElem_cons_succ, List.getElem_cons_zero, List.setIfInBounds_toArray, List.set_cons_zero, List.set_cons_succ]
              refine wpAnyH_take (i := 9) (v := ?_) rfl (by kernel_rfl) (by kernel_rfl) (by kernel_rfl) (fun _ _ _ h => h) (Or.inl ⟨by rfl, ?_⟩) (by assumption) ?_
              rotate_left
              · (intro w hSw; obtain ⟨k1, k2, k3, k4, k5⟩ := HBK.out w hSw; go_simp; try (with_reducible rfl))
              try simp only [Act.put, List.getElem_toArray, List.getElem_cons_succ, List.getElem_cons_zero, List.setIfInBounds_toArray, List.set_cons_zero, List.set_cons_succ]
              refine wpAnyH_take (i := 10) (v := ?_) rfl (by kernel_rfl) (by kernel_rfl) (by kernel_rfl) (fun _ _ _ h => h) (Or.inl ⟨by rfl, ?_⟩) (by assumption) ?_
              rotate_left
              · (intro w hSw; obtain ⟨k1, k2, k3, k4, k5⟩ := HBK.out w hSw; go_simp; try (with_reducible rfl))
              try simp only [Act.put, List.getElem_toArray, List.getElem_cons_succ, List.getElem_cons_zero, List.setIfInBounds_toArray, List.set_cons_zero, List.set_cons_succ]
              refine wpAnyH_take (i := 11) (v := ?_) rfl (by kernel_rfl) (by kernel_rfl) (by kernel_rfl) (fun _ _ _ h => h) (Or.inl ⟨by rfl, ?_⟩) (by assumption) ?_
              rotate_left
              · (intro w hSw; obtain ⟨k1, k2, k3, k4, k5⟩ := HBK.out w hSw; go_simp; try (with_reducible rfl))
              try simp only [Act.put, List.getElem_toArray, List.getElem_cons_succ, List.getElem_cons_zero, List.setIfInBounds_toArray, List.set_cons_zero, List.set_cons_succ]
              refine wpAnyH_take (i := 12) (v := ?_) rfl (by kernel_rfl) (by kernel_rfl) (by kernel_rfl) (fun _ _ _ h => h) (Or.inl ⟨by rfl, ?_⟩) (by assumption) ?_
              rotate_left
              · (intro w hSw; obtain ⟨k1, k2, k3, k4, k5⟩ := HBK.out w hSw; go_simp; try (with_reducible rfl))
              try simp only [Act.put, List.getElem_toArray, List.getElem_cons_succ, List.getElem_cons_zero, List.setIfInBounds_toArray, List.set_cons_zero, List.set_cons_succ]
              refine wpAnyH_take (i := 13) (v := ?_) rfl (by kernel_rfl) (by kernel_rfl) (by kernel_rfl) (fun _ _ _ h => h) (Or.inl ⟨by rfl, ?_⟩) (by assumption) ?_
              rotate_left
              · (intro w hSw; obtain ⟨k1, k2, k3, k4, k5⟩ := HBK.out w hSw; go_simp; try (with_reducible rfl))
              try simp only [Act.put, List.getElem_toArray, List.getElem_cons_succ, List.getElem_cons_zero, List.setIfInBounds_toArray, List.set_cons_zero, List.set_cons_succ]
              refine wpAnyH_take (i := 14) (v := ?_) rfl (by kernel_rfl) (by kernel_rfl) (by kernel_rfl) (fun _ _ _ h => h) (Or.inl ⟨by rfl, ?_⟩) (by assumption) ?_
              rotate_left
              · (intro w hSw; obtain ⟨k1, k2, k3, k4, k5⟩ := HBK.out w hSw; go_simp; try (with_reducible rfl))
              try simp only [Act.put, List.getElem_toArray, List.getElem_cons_succ, List.getElem_cons_zero, List.setIfInBounds_toArray, List.set_cons_zero, List.set_cons_succ]
              refine wpAnyH_take (i := 15) (v := ?_) rfl (by kernel_rfl) (by kernel_rfl) (by kernel_rfl) (fun _ _ _ h => h) (Or.inl ⟨by rfl, ?_⟩) (by assumption) ?_
              rotate_left
              · (intro w hSw; obtain ⟨k1, k2, k3, k4, k5⟩ := HBK.out w hSw; go_simp; try (with_reducible rfl))
              try simp only [Act.put, List.getElem_toArray, List.getElem_cons_succ, List.getElem_cons_zero, List.setIfInBounds_toArray, List.set_cons_zero, List.set_cons_succ]
              refine wpAnyH_ready (rs := [16]) (by kernel_rfl) (by simp) ?_
              refine AllReadyH.cons rfl (fun K hK => ?_) ?_
              · go_simp
                refine hK.out _ _ (fun k hk => Below.heap_setCell wr _ _ k hk) (fun hHeld2 => ?_)
                clear hK K
                try simp only [Act.put, List.getElem_toArray, List.getElem_cons_succ, List.getElem_cons_zero, List.setIfInBounds_toArray, List.set_cons_zero, List.set_cons_succ]
                refine wpAnyH_done (by kernel_rfl) ?_ _
                obtain ⟨k1, k2, k3, k4, k5⟩ := HBK.out _ hHeld2
                go_wp2_with fail
                exact ⟨⟨i + 1, by omega, by go_num, HST.out.drew (fun _ => rfl) ⟨rfl, rfl, rfl, Nat.le_refl _, fun _ _ _ => rfl⟩⟩, by simp [intOf]; omega⟩
              exact AllReadyH.nil
            · have him2 : i = m.h := by omega
              have hcast : ((P ++ Q).length : Int) + 1 = ((P ++ m :: Q).length : Int) := by simp; omega
              have c7 : wr.cell? ⟨g, 7, none⟩ = some (.int .i64 ((P ++ Q).length : Nat)) := HP.out.tab.cell 7
              have f7 := HP.out.tab.frozen 7
              have HCAST := Lib.hid hcast
              generalize (P ++ Q).length = nn at *
              have hih : (m.h : Int) ≤ (i : Int) := by omega
              have hgz := HLF.out g (.inl rfl)
              clear hcast him2
              go_wp2_with fail
              go_ret
              have him2 : i = m.h := by omega
              rw [him2] at HP
              have hnd := HND.out
              have n1 := List.nodup_cons.1 hnd
              have hbg : ∀ k : Nat, k ≠ g → (wr.setCell ⟨g, 7, none⟩ (.int .i64 ((nn : Int) + 1))).heap[k]? = wr.heap[k]? := fun k hk => Below.heap_setCell wr _ _ k hk
              refine ⟨rfl, m, HM.out.2.2.2, by omega, by omega, by omega, ⟨?_, ?_, ?_⟩, HP.out.chg.set_ g 7 _ (.inl (.inl rfl))⟩
              · rw [← HCAST.out]; exact HP.out.tab.set_ 7 _
              · have := (hbg hb (fun e => n1.1 (e ▸ List.mem_cons_self ..))).trans HP.out.row
                rwa [rowI_all] at this
              · refine NodesI.done ⟨(hbg _ (by omega)).trans HP.out.nd, ?_, hm1⟩ (HP.out.nodes.keep fun k hk => hbg k fun e => n1.1 (e ▸ List.mem_cons_of_mem _ hk))
                have := (hbg m.xb (by omega)).trans HP.out.nx
                rwa [newRow_all] at this
        exact AllReadyH.nil
      exact AllReadyH.nil
    exact AllReadyH.nil
end Go.Proofs.Ytodnojpolkdlmaa
