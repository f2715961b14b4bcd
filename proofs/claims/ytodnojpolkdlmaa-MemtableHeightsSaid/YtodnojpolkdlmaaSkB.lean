/-
  A skiplist: the last nodes ahead of a key.
-/
import Derived.Test.YtodnojpolkdlmaaSkA
import Derived.Laws.MakeOwn
import Derived.Deep.RegionHeld3
import Derived.Deep.DrawnRows
import Derived.Deep.DeepCutAuto
import Derived.Deep.LoopGhost
namespace Go.Proofs.Ytodnojpolkdlmaa
set_option linter.unusedSimpArgs false
set_option linter.unusedVariables false
open Go.RowKit Go.IntWalk
attribute [local go_sem ↓] Go.wp_at_zero Go.wp_at_succ

/-- the row of the last nodes, written from storey k on -/
def lastRow (hd : Addr) (P : List Nd) (k : Nat) : Array Value := ((List.range 12).map fun j => if k ≤ j then Value.pointer (some (lastA hd j P)) else .pointer none).toArray
def nilRow (n : Nat) : Array Value := (List.replicate n (Value.pointer none)).toArray
theorem lastRow_start (hd : Addr) (P : List Nd) : lastRow hd P 12 = nilRow 12 := by
  unfold lastRow nilRow
  apply Array.ext'
  apply List.ext_getElem
  · simp
  · intro i h1 h2
    simp at h1
    simp only [List.getElem_map, List.getElem_range]
    rw [List.getElem_replicate, if_neg (by omega)]
theorem info_nodep : (Try.prog.info? 77).map (fun i => (i.zero, i.size, i.bytes)) = some (some (.pointer none), 1, 8) := by kernel_rfl
theorem made_nil (n : Nat) : madeCells (Value.pointer none).cells n = nilRow n := by
  unfold madeCells nilRow
  apply Array.ext'
  apply List.ext_getElem
  · simp
  · intro i h1 h2
    simp [Value.cells, Nat.mod_one]
theorem make_nodes (n : Nat) (hn : n ≤ 1000) (w : World) : (Instr.makeSlice 64 (.int .i64 (n : Int)) (.int .i64 (n : Int))).run Try.prog w = .ok (.slice (some ⟨w.heap.size, 0, none⟩) n n) (w.alloc (.cells (nilRow n) 77)) := by
  obtain ⟨i0, hi, hz0, hz1, hz2⟩ := info_parts info_nodep
  have := run_make (P := Try.prog) w 64 77 i0 _ Try.underlying64 hi hz0 .i64 .i64 n n (by omega) (Int.le_refl _) (by rw [hz2]; omega) (by omega)
  rw [hz1, Nat.mul_one, made_nil] at this
  simpa using this
theorem lastRow_set (hd : Addr) (P : List Nd) (k : Nat) (hk : k < 12) : (lastRow hd P (k + 1)).setIfInBounds k (.pointer (some (lastA hd k P))) = lastRow hd P k := by
  unfold lastRow
  apply Array.ext'
  apply List.ext_getElem
  · simp
  · intro i h1 h2
    simp at h1
    simp only [Array.toList_setIfInBounds, List.getElem_set, List.getElem_map, List.getElem_range]
    by_cases h : k = i
    · subst h; simp
    · rw [if_neg h]
      by_cases h3 : k + 1 ≤ i
      · rw [if_pos h3, if_pos (by omega)]
      · rw [if_neg h3, if_neg (by omega)]
theorem lastRow_get (hd : Addr) (P : List Nd) (k i : Nat) (hi : i < 12) : (lastRow hd P k)[i]? = some (if k ≤ i then Value.pointer (some (lastA hd i P)) else .pointer none) := by
  unfold lastRow; simp [hi]
theorem lastA_last {hd : Addr} {i ab ao : Nat} {P P1 P2 : List Nd} (hp : P = P1 ++ P2) (hl : lastA hd i P1 = ⟨ab, ao, none⟩) (hn : nxtB i P2 = none) : lastA hd i P = ⟨ab, ao, none⟩ := by
  rw [hp, lastA_append, hl, lastA_none _ hn]
set_option maxHeartbeats 4000000 in
set_option maxRecDepth 100000 in
theorem mAhead_any (w : World) (g hb : Nat) (how : Int) (hv hu hs hk hval tv size first last : Value) (P Q : List Nd) (kk : K)
    (ht : Tbl w g hb how hv hu hs hk hval tv size first last (P ++ Q)) (hP : ∀ n ∈ P, ordK how n.e.k kk < 0) (hQ : ∀ n ∈ Q, 0 ≤ ordK how n.e.k kk) :
    Calls Try.prog 28 #[.pointer (some ⟨g, 0, none⟩), .agg #[.string kk.u, .int .u64 kk.s, .int .i64 kk.k]] w fun e w' =>
      ∃ ob, e = .returned (.slice (some ⟨ob, 0, none⟩) 12 12) ∧ w.heap.size ≤ ob ∧ Below w.heap.size w w' ∧ Blk w' ob 77 (lastRow ⟨g, 2, none⟩ P 0) := by
  obtain ⟨u, s, q⟩ := kk
  have hlt := ht.blk.lt
  have HT := Lib.hid ht
  clear ht
  have hmk : ∀ w, (Instr.makeSlice 64 (.int .i64 12) (.int .i64 12)).run Try.prog w = .ok (.slice (some ⟨w.heap.size, 0, none⟩) 12 12) (w.alloc (.cells (nilRow 12) 77)) := fun w => make_nodes 12 (by omega) w
  have hb0 : Below w.heap.size w ((w.alloc (.cells #[.string u, .int .u64 s, .int .i64 q] 45)).alloc (.cells (nilRow 12) 77)) := ((Below.refl _ w).alloc (Nat.le_refl _) _).alloc (by simp) _
  have hk0 := (Blk.new w 45 #[.string u, .int .u64 s, .int .i64 q]).alloc (.cells (nilRow 12) 77)
  have ho0 := Blk.new (w.alloc (.cells #[.string u, .int .u64 s, .int .i64 q] 45)) 77 (nilRow 12)
  rw [World.size_alloc, ← lastRow_start ⟨g, 2, none⟩ P] at ho0
  rw [← lastRow_start ⟨g, 2, none⟩ P] at hb0 hk0
  have HB0 := Lib.hid hb0
  have HK0 := Lib.hid hk0
  have HO0 := Lib.hid ho0
  have hne : ∀ n ∈ P ++ Q, n.nb < w.heap.size ∧ n.xb < w.heap.size := HT.out.nodes.lt
  have HNE := Lib.hid hne
  clear hb0 hk0 ho0 hne
  rw [← lastRow_start ⟨g, 2, none⟩ P] at hmk
  go_enter Try.func28, Try.ntmps28
  go_wp2_with fail
  go_loopw [6, 7] (fun s6 s7 wr => ∃ (k : Nat) (ab ao xb h : Nat) (P1 P2 : List Nd), s6 = .pointer (some ⟨ab, ao, none⟩) ∧ s7 = .int .i64 ((k : Int) - 1) ∧ k ≤ 12 ∧ Hid (P = P1 ++ P2) ∧ Hid (AtP w ab ao xb h (P2 ++ Q)) ∧ k ≤ h ∧ Hid (∀ i, i < k → lastA ⟨g, 2, none⟩ i P1 = ⟨ab, ao, none⟩) ∧
    Hid (Below w.heap.size w wr) ∧ Hid (Blk wr w.heap.size 45 #[.string u, .int .u64 s, .int .i64 q]) ∧ Hid (Blk wr (w.heap.size + 1) 77 (lastRow ⟨g, 2, none⟩ P k))) (fun _ s7 _ => (intOf s7 + 1).toNat)
  case atStart => exact ⟨12, g, 2, hb, 12, [], P, rfl, rfl, Nat.le_refl _, rfl, HT.out.head, Nat.le_refl _, fun _ _ => rfl, HB0.out, HK0.out, HO0.out⟩
  case round =>
    clear HB0 HK0 HO0 hmk
    obtain ⟨k, ab, ao, xb, h, P1, P2, rfl, rfl, hk12, HPP, HA, hkh, HL, HB, HK, HO⟩ := hrel
    rcases k with _ | i
    · go_wp2_with fail
      go_ret
      exact ⟨_, rfl, by omega, HB.out, HO.out⟩
    · have hi : ((i + 1 : Nat) : Int) - 1 = (i : Int) := by omega
      rw [hi]
      clear hi
      go_wp2_with fail
      obtain ⟨wo, rfl⟩ : ∃ wo : World, wo = wr := ⟨_, rfl⟩
      go_loopg [6] P2.length (fun gh s6 wr => ∃ (ab ao xb h : Nat) (P1 P2 : List Nd), gh = P2.length ∧ s6 = .pointer (some ⟨ab, ao, none⟩) ∧ Hid (P = P1 ++ P2) ∧ Hid (AtP w ab ao xb h (P2 ++ Q)) ∧ i + 1 ≤ h ∧ Hid (∀ j, j < i + 1 → lastA ⟨g, 2, none⟩ j P1 = ⟨ab, ao, none⟩) ∧
        Hid (Below w.heap.size w wr) ∧ Hid (Blk wr w.heap.size 45 #[.string u, .int .u64 s, .int .i64 q]) ∧ Hid (Blk wr (w.heap.size + 1) 77 (lastRow ⟨g, 2, none⟩ P (i + 1))))
      case atStart => exact ⟨ab, ao, xb, h, P1, P2, rfl, rfl, HPP.out, HA.out, hkh, HL.out, HB.out, HK.out, HO.out⟩
      case round =>
        clear HPP HA hkh HL HB HK HO
        obtain ⟨ab, ao, xb, h, P1, P2, rfl, rfl, HPP, HA, hkh, HL, HB, HK, HO⟩ := hrel
        have hAB := HA.out.lt
        have hc1 : ∀ w', Below w.heap.size w w' → w'.cell? ⟨ab, ao + 4, none⟩ = some (.slice (some ⟨xb, 0, none⟩) h h) := fun w' hb => (hb.cell (p := ⟨ab, ao + 4, none⟩) hAB.1).trans HA.out.sl
        have hc2 : ∀ w', Below w.heap.size w w' → w'.cell? ⟨xb, i, none⟩ = some (ptrV (nxtB i (P2 ++ Q))) := fun w' hb => (hb.cell (p := ⟨xb, i, none⟩) hAB.2).trans (HA.out.row i (by omega))
        have hc3 : ∀ w', Below w.heap.size w w' → w'.cell? ⟨g, 0, none⟩ = some (.int .i64 how) := fun w' hb => (hb.cell (p := ⟨g, 0, none⟩) hlt).trans (HT.out.blk.cell 0)
        have HC1 := Lib.hid hc1
        have HC2 := Lib.hid hc2
        have HC3 := Lib.hid hc3
        have hih : (0 : Int) ≤ (i : Int) ∧ (i : Int) < (h : Int) := by omega
        clear hc1 hc2 hc3
        by_cases hn : nxtB i P2 = none
        · have hq := nxtB_none hn Q
          rcases hnq : nxtB i Q with _ | nq
          · rw [hq, hnq] at HC2
            have k1 := HC1.out _ HB.out
            have k2 := HC2.out _ HB.out
            simp only [ptrV] at k2
            go_wp2_with fail
            go_quiet (fail)
            have HBW := Lib.hid (below_drewN HB.out nq)
            have HKW := Lib.hid (HK.out.below (below_drewN (Below.refl wr.heap.size wr) nq) HK.out.lt)
            have HOW := Lib.hid (HO.out.below (below_drewN (Below.refl wr.heap.size wr) nq) HO.out.lt)
            clear k1 k2
            have hla := lastA_last HPP.out (HL.out i (by omega)) hn
            have co : (wr.drewN nq).cell? ⟨w.heap.size + 1, i, none⟩ = some (.pointer none) := by rw [HOW.out.cell i, lastRow_get _ _ _ _ (by omega), if_neg (by omega)]
            have fo := HOW.out.frozen i
            have HLA := Lib.hid hla
            clear hla
            go_wp2_with fail
            go_roundw
            case rel => exact ⟨i, ab, ao, xb, h, P1, P2, rfl, rfl, by omega, HPP.out, HA.out, by omega, fun j hj => HL.out j (by omega), HBW.out.setCell (p := ⟨w.heap.size + 1, i, none⟩) (show w.heap.size ≤ w.heap.size + 1 by omega) _, HKW.out.far (p := ⟨w.heap.size + 1, i, none⟩) (show w.heap.size ≠ w.heap.size + 1 by omega) _, by rw [Hid, ← lastRow_set _ _ _ (by omega), HLA.out]; exact HOW.out.set_ i _⟩
            case measure => simp [intOf]
          · obtain ⟨Q1, n, Q2, hQQ, -, -, hqn⟩ := nxtB_split (j := i) (A := Q) (by rw [hnq]; simp)
            have hqn2 := hqn []
            rw [List.append_nil] at hqn2
            rw [hq, hqn2] at HC2
            have ho := hQ n (by rw [hQQ]; simp)
            have hnm : n ∈ P ++ Q := List.mem_append_right _ (by rw [hQQ]; simp)
            have hnl := (HNE.out n hnm).1
            have hnk : Blk w n.nb 66 (nodeC n) := by
              have h1 := HT.out.nodes
              rw [hQQ, ← List.append_assoc] at h1
              exact (Nodes.tail h1).1.1
            clear hqn hqn2 hQQ hnq
            have hO := fun w' => cOrder_any how n.e.k.s n.e.k.k s q n.e.k.u u w'
            have hSS : ∀ w', Below wr.heap.size wr w' → (w'.cell? ⟨ab, ao + 4, none⟩ = some (.slice (some ⟨xb, 0, none⟩) h h) ∧ w'.cell? ⟨xb, i, none⟩ = some (.pointer (some ⟨n.nb, 0, none⟩)) ∧ w'.cell? ⟨g, 0, none⟩ = some (.int .i64 how)) ∧
                (w'.cell? ⟨n.nb, 0, none⟩ = some (.string n.e.k.u) ∧ w'.cell? ⟨n.nb, 1, none⟩ = some (.int .u64 n.e.k.s) ∧ w'.cell? ⟨n.nb, 2, none⟩ = some (.int .i64 n.e.k.k)) ∧
                (w'.cell? ⟨w.heap.size, 0, none⟩ = some (.string u) ∧ w'.cell? ⟨w.heap.size, 1, none⟩ = some (.int .u64 s) ∧ w'.cell? ⟨w.heap.size, 2, none⟩ = some (.int .i64 q)) := by
              intro w' h'
              have hB := HB.out.trans (h'.mono HB.out.size)
              have hX := HK.out.below h' HK.out.lt
              exact ⟨⟨HC1.out _ hB, HC2.out _ hB, HC3.out _ hB⟩, ⟨(hB.cell (p := ⟨n.nb, 0, none⟩) hnl).trans (hnk.cell 0), (hB.cell (p := ⟨n.nb, 1, none⟩) hnl).trans (hnk.cell 1), (hB.cell (p := ⟨n.nb, 2, none⟩) hnl).trans (hnk.cell 2)⟩, hX.cell 0, hX.cell 1, hX.cell 2⟩
            have HSS := Lib.hid hSS
            have hk2 : ({ u := n.e.k.u, s := n.e.k.s, k := n.e.k.k } : K) = n.e.k := rfl
            rw [hk2] at hO
            generalize ordK how n.e.k ⟨u, s, q⟩ = o at *
            have HOO := Lib.hid hO
            clear hSS hO hk2
            go_wp2_with fail
            refine wp_region_held_drew (S := fun w' => Below wr.heap.size wr w') (by kernel_rfl) (Below.refl _ _).drew (fun hHeld => ?_)
            refine wpAnyH_take (i := 0) (v := ?_) rfl (by kernel_rfl) (by kernel_rfl) (by kernel_rfl) (fun _ _ _ h => h) (Or.inl ⟨by rfl, ?_⟩) (by assumption) ?_
            rotate_left
            · (intro w hSw; obtain ⟨⟨k0, k1, k2⟩, ⟨l0, l1, l2⟩, ⟨m0, m1, m2⟩⟩ := HSS.out w hSw; go_simp; try (with_reducible rfl))
            try simp only [Act.put, List.getElem_toArray, List.getElem_cons_succ, List.getElem_cons_zero, List.setIfInBounds_toArray, List.set_cons_zero, List.set_cons_succ]
            refine wpAnyH_take (i := 1) (v := ?_) rfl (by kernel_rfl) (by kernel_rfl) (by kernel_rfl) (fun _ _ _ h => h) (Or.inl ⟨by rfl, ?_⟩) (by assumption) ?_
            rotate_left
            · (intro w hSw; obtain ⟨⟨k0, k1, k2⟩, ⟨l0, l1, l2⟩, ⟨m0, m1, m2⟩⟩ := HSS.out w hSw; go_simp; try (with_reducible rfl))
            try simp only [Act.put, List.getElem_toArray, List.getElem_cons_succ, List.getElem_cons_zero, List.setIfInBounds_toArray, List.set_cons_zero, List.set_cons_succ]
            refine wpAnyH_take (i := 2) (v := ?_) rfl (by kernel_rfl) (by kernel_rfl) (by kernel_rfl) (fun _ _ _ h => h) (Or.inl ⟨by rfl, ?_⟩) (by assumption) ?_
            rotate_left
            · (intro w hSw; obtain ⟨⟨k0, k1, k2⟩, ⟨l0, l1, l2⟩, ⟨m0, m1, m2⟩⟩ := HSS.out w hSw; go_simp; try (with_reducible rfl))
            try simp only [Act.put, List.getElem_toArray, List.getElem_cons_succ, List.getElem_cons_zero, List.setIfInBounds_toArray, List.set_cons_zero, List.set_cons_succ]
            refine wpAnyH_take (i := 3) (v := ?_) rfl (by kernel_rfl) (by kernel_rfl) (by kernel_rfl) (fun _ _ _ h => h) (Or.inl ⟨by rfl, ?_⟩) (by assumption) ?_
            rotate_left
            · (intro w hSw; obtain ⟨⟨k0, k1, k2⟩, ⟨l0, l1, l2⟩, ⟨m0, m1, m2⟩⟩ := HSS.out w hSw; go_simp; try (with_reducible rfl))
            try simp only [Act.put, List.getElem_toArray, List.getElem_cons_succ, List.getElem_cons_zero, List.setIfInBounds_toArray, List.set_cons_zero, List.set_cons_succ]
            refine wpAnyH_take (i := 4) (v := ?_) rfl (by kernel_rfl) (by kernel_rfl) (by kernel_rfl) (fun _ _ _ h => h) (Or.inl ⟨by rfl, ?_⟩) (by assumption) ?_
            rotate_left
            · (intro w hSw; obtain ⟨⟨k0, k1, k2⟩, ⟨l0, l1, l2⟩, ⟨m0, m1, m2⟩⟩ := HSS.out w hSw; go_simp; try (with_reducible rfl))
            try simp only [Act.put, List.getElem_toArray, List.getElem_cons_succ, List.getElem_cons_zero, List.setIfInBounds_toArray, List.set_cons_zero, List.set_cons_succ]
            refine wpAnyH_take (i := 5) (v := ?_) rfl (by kernel_rfl) (by kernel_rfl) (by kernel_rfl) (fun _ _ _ h => h) (Or.inl ⟨by rfl, ?_⟩) (by assumption) ?_
            rotate_left
            · (intro w hSw; obtain ⟨⟨k0, k1, k2⟩, ⟨l0, l1, l2⟩, ⟨m0, m1, m2⟩⟩ := HSS.out w hSw; go_simp; try (with_reducible rfl))
            try simp only [Act.put, List.getElem_toArray, List.getElem_cons_succ, List.getElem_cons_zero, List.setIfInBounds_toArray, List.set_cons_zero, List.set_cons_succ]
            refine wpAnyH_take (i := 6) (v := ?_) rfl (by kernel_rfl) (by kernel_rfl) (by kernel_rfl) (fun _ _ _ h => h) (Or.inl ⟨by rfl, ?_⟩) (by assumption) ?_
            rotate_left
            · (intro w hSw; obtain ⟨⟨k0, k1, k2⟩, ⟨l0, l1, l2⟩, ⟨m0, m1, m2⟩⟩ := HSS.out w hSw; go_simp; try (with_reducible rfl))
            try simp only [Act.put, List.getElem_toArray, List.getElem_cons_succ, List.getElem_cons_zero, List.setIfInBounds_toArray, List.set_cons_zero, List.set_cons_succ]
            refine wpAnyH_take (i := 7) (v := ?_) rfl (by kernel_rfl) (by kernel_rfl) (by kernel_rfl) (fun _ _ _ h => h) (Or.inl ⟨by rfl, ?_⟩) (by assumption) ?_
            rotate_left
            · (intro w hSw; obtain ⟨⟨k0, k1, k2⟩, ⟨l0, l1, l2⟩, ⟨m0, m1, m2⟩⟩ := HSS.out w hSw; go_simp; try (with_reducible rfl))
            try simp only [Act.put, List.getElem_toArray, List.getElem_cons_succ, List.getElem_cons_zero, List.setIfInBounds_toArray, List.set_cons_zero, List.set_cons_succ]
            refine wpAnyH_take (i := 8) (v := ?_) rfl (by kernel_rfl) (by kernel_rfl) (by kernel_rfl) (fun _ _ _ h => h) (Or.inl ⟨by rfl, ?_⟩) (by assumption) ?_
            rotate_left
            · (intro w hSw; obtain ⟨⟨k0, k1, k2⟩, ⟨l0, l1, l2⟩, ⟨m0, m1, m2⟩⟩ := HSS.out w hSw; go_simp; try (with_reducible rfl))
            try simp only [Act.put, List.getElem_toArray, List.getElem_cons_succ, List.getElem_cons_zero, List.setIfInBounds_toArray, List.set_cons_zero, List.set_cons_succ]
            refine wpAnyH_take (i := 9) (v := ?_) rfl (by kernel_rfl) (by kernel_rfl) (by kernel_rfl) (fun _ _ _ h => h) (Or.inl ⟨by rfl, ?_⟩) (by assumption) ?_
            rotate_left
            · (intro w hSw; obtain ⟨⟨k0, k1, k2⟩, ⟨l0, l1, l2⟩, ⟨m0, m1, m2⟩⟩ := HSS.out w hSw; go_simp; try (with_reducible rfl))
            try simp only [Act.put, List.getElem_toArray, List.getElem_cons_succ, List.getElem_cons_zero, List.setIfInBounds_toArray, List.set_cons_zero, List.set_cons_succ]
            refine wpAnyH_take (i := 10) (v := ?_) rfl (by kernel_rfl) (by kernel_rfl) (by kernel_rfl) (fun _ _ _ h => h) (Or.inl ⟨by rfl, ?_⟩) (by assumption) ?_
            rotate_left
            · (intro w hSw; obtain ⟨⟨k0, k1, k2⟩, ⟨l0, l1, l2⟩, ⟨m0, m1, m2⟩⟩ := HSS.out w hSw; go_simp; try (with_reducible rfl))
            try simp only [Act.put, List.getElem_toArray, List.getElem_cons_succ, List.getElem_cons_zero, List.setIfInBounds_toArray, List.set_cons_zero, List.set_cons_succ]
            refine wpAnyH_take (i := 11) (v := ?_) rfl (by kernel_rfl) (by kernel_rfl) (by kernel_rfl) (fun _ _ _ h => h) (Or.inl ⟨by rfl, ?_⟩) (by assumption) ?_
            rotate_left
            · (intro w hSw; obtain ⟨⟨k0, k1, k2⟩, ⟨l0, l1, l2⟩, ⟨m0, m1, m2⟩⟩ := HSS.out w hSw; go_simp; try (with_reducible rfl))
            try simp only [Act.put, List.getElem_toArray, List.getElem_cons_succ, List.getElem_cons_zero, List.setIfInBounds_toArray, List.set_cons_zero, List.set_cons_succ]
            refine wpAnyH_take (i := 12) (v := ?_) rfl (by kernel_rfl) (by kernel_rfl) (by kernel_rfl) (fun _ _ _ h => h) (Or.inl ⟨by rfl, ?_⟩) (by assumption) ?_
            rotate_left
            · (intro w hSw; obtain ⟨⟨k0, k1, k2⟩, ⟨l0, l1, l2⟩, ⟨m0, m1, m2⟩⟩ := HSS.out w hSw; go_simp; try (with_reducible rfl))
            try simp only [Act.put, List.getElem_toArray, List.getElem_cons_succ, List.getElem_cons_zero, List.setIfInBounds_toArray, List.set_cons_zero, List.set_cons_succ]
            refine wpAnyH_take (i := 13) (v := ?_) rfl (by kernel_rfl) (by kernel_rfl) (by kernel_rfl) (fun _ _ _ h => h) (Or.inl ⟨by rfl, ?_⟩) (by assumption) ?_
            rotate_left
            · (intro w hSw; obtain ⟨⟨k0, k1, k2⟩, ⟨l0, l1, l2⟩, ⟨m0, m1, m2⟩⟩ := HSS.out w hSw; go_simp; try (with_reducible rfl))
            try simp only [Act.put, List.getElem_toArray, List.getElem_cons_succ, List.getElem_cons_zero, List.setIfInBounds_toArray, List.set_cons_zero, List.set_cons_succ]
            refine wpAnyH_take (i := 14) (v := ?_) rfl (by kernel_rfl) (by kernel_rfl) (by kernel_rfl) (fun _ _ _ h => h) (Or.inl ⟨by rfl, ?_⟩) (by assumption) ?_
            rotate_left
            · (intro w hSw; obtain ⟨⟨k0, k1, k2⟩, ⟨l0, l1, l2⟩, ⟨m0, m1, m2⟩⟩ := HSS.out w hSw; go_simp; try (with_reducible rfl))
            try simp only [Act.put, List.getElem_toArray, List.getElem_cons_succ, List.getElem_cons_zero, List.setIfInBounds_toArray, List.set_cons_zero, List.set_cons_succ]
            refine wpAnyH_take (i := 15) (v := ?_) rfl (by kernel_rfl) (by kernel_rfl) (by kernel_rfl) (fun _ _ _ h => h) (Or.inl ⟨by rfl, ?_⟩) (by assumption) ?_
            rotate_left
            · (intro w hSw; obtain ⟨⟨k0, k1, k2⟩, ⟨l0, l1, l2⟩, ⟨m0, m1, m2⟩⟩ := HSS.out w hSw; go_simp; try (with_reducible rfl))
            try simp only [Act.put, List.getElem_toArray, List.getElem_cons_succ, List.getElem_cons_zero, List.setIfInBounds_toArray, List.set_cons_zero, List.set_cons_succ]
            refine wpAnyH_take (i := 16) (v := ?_) rfl (by kernel_rfl) (by kernel_rfl) (by kernel_rfl) (fun _ _ _ h => h) (Or.inl ⟨by rfl, ?_⟩) (by assumption) ?_
            rotate_left
            · (intro w hSw; obtain ⟨⟨k0, k1, k2⟩, ⟨l0, l1, l2⟩, ⟨m0, m1, m2⟩⟩ := HSS.out w hSw; go_simp; try (with_reducible rfl))
            try simp only [Act.put, List.getElem_toArray, List.getElem_cons_succ, List.getElem_cons_zero, List.setIfInBounds_toArray, List.set_cons_zero, List.set_cons_succ]
            refine wpAnyH_take (i := 17) (v := ?_) rfl (by kernel_rfl) (by kernel_rfl) (by kernel_rfl) (fun _ _ _ h => h) (Or.inl ⟨by rfl, ?_⟩) (by assumption) ?_
            rotate_left
            · (intro w hSw; obtain ⟨⟨k0, k1, k2⟩, ⟨l0, l1, l2⟩, ⟨m0, m1, m2⟩⟩ := HSS.out w hSw; go_simp; try (with_reducible rfl))
            try simp only [Act.put, List.getElem_toArray, List.getElem_cons_succ, List.getElem_cons_zero, List.setIfInBounds_toArray, List.set_cons_zero, List.set_cons_succ]
            refine wpAnyH_take (i := 18) (v := ?_) rfl (by kernel_rfl) (by kernel_rfl) (by kernel_rfl) (fun _ _ _ h => h) (Or.inl ⟨by rfl, ?_⟩) (by assumption) ?_
            rotate_left
            · (intro w hSw; obtain ⟨⟨k0, k1, k2⟩, ⟨l0, l1, l2⟩, ⟨m0, m1, m2⟩⟩ := HSS.out w hSw; go_simp; try (with_reducible rfl))
            try simp only [Act.put, List.getElem_toArray, List.getElem_cons_succ, List.getElem_cons_zero, List.setIfInBounds_toArray, List.set_cons_zero, List.set_cons_succ]
            refine wpAnyH_take (i := 19) (v := ?_) rfl (by kernel_rfl) (by kernel_rfl) (by kernel_rfl) (fun _ _ _ h => h) (Or.inl ⟨by rfl, ?_⟩) (by assumption) ?_
            rotate_left
            · (intro w hSw; obtain ⟨⟨k0, k1, k2⟩, ⟨l0, l1, l2⟩, ⟨m0, m1, m2⟩⟩ := HSS.out w hSw; go_simp; try (with_reducible rfl))
            try simp only [Act.put, List.getElem_toArray, List.getElem_cons_succ, List.getElem_cons_zero, List.setIfInBounds_toArray, List.set_cons_zero, List.set_cons_succ]
            refine wpAnyH_take (i := 20) (v := ?_) rfl (by kernel_rfl) (by kernel_rfl) (by kernel_rfl) (fun _ _ _ h => h) (Or.inl ⟨by rfl, ?_⟩) (by assumption) ?_
            rotate_left
            · (intro w hSw; obtain ⟨⟨k0, k1, k2⟩, ⟨l0, l1, l2⟩, ⟨m0, m1, m2⟩⟩ := HSS.out w hSw; go_simp; try (with_reducible rfl))
            try simp only [Act.put, List.getElem_toArray, List.getElem_cons_succ, List.getElem_cons_zero, List.setIfInBounds_toArray, List.set_cons_zero, List.set_cons_succ]
            refine wpAnyH_take (i := 21) (v := ?_) rfl (by kernel_rfl) (by kernel_rfl) (by kernel_rfl) (fun _ _ _ h => h) (Or.inl ⟨by rfl, ?_⟩) (by assumption) ?_
            rotate_left
            · (intro w hSw; obtain ⟨⟨k0, k1, k2⟩, ⟨l0, l1, l2⟩, ⟨m0, m1, m2⟩⟩ := HSS.out w hSw; go_simp; try (with_reducible rfl))
            try simp only [Act.put, List.getElem_toArray, List.getElem_cons_succ, List.getElem_cons_zero, List.setIfInBounds_toArray, List.set_cons_zero, List.set_cons_succ]
            refine wpAnyH_take (i := 22) (v := ?_) rfl (by kernel_rfl) (by kernel_rfl) (by kernel_rfl) (fun _ _ _ h => h) (Or.inl ⟨by rfl, ?_⟩) (by assumption) ?_
            rotate_left
            · (intro w hSw; obtain ⟨⟨k0, k1, k2⟩, ⟨l0, l1, l2⟩, ⟨m0, m1, m2⟩⟩ := HSS.out w hSw; go_simp; try (with_reducible rfl))
            try simp only [Act.put, List.getElem_toArray, List.getElem_cons_succ, List.getElem_cons_zero, List.setIfInBounds_toArray, List.set_cons_zero, List.set_cons_succ]
            refine wpAnyH_take (i := 23) (v := ?_) rfl (by kernel_rfl) (by kernel_rfl) (by kernel_rfl) (fun _ _ _ h => h) (Or.inl ⟨by rfl, ?_⟩) (by assumption) ?_
            rotate_left
            · (intro w hSw; obtain ⟨⟨k0, k1, k2⟩, ⟨l0, l1, l2⟩, ⟨m0, m1, m2⟩⟩ := HSS.out w hSw; go_simp; try (with_reducible rfl))
            try simp only [Act.put, List.getElem_toArray, List.getElem_cons_succ, List.getElem_cons_zero, List.setIfInBounds_toArray, List.set_cons_zero, List.set_cons_succ]
            refine wpAnyH_take (i := 24) (v := ?_) rfl (by kernel_rfl) (by kernel_rfl) (by kernel_rfl) (fun _ _ _ h => h) (Or.inl ⟨by rfl, ?_⟩) (by assumption) ?_
            rotate_left
            · (intro w hSw; obtain ⟨⟨k0, k1, k2⟩, ⟨l0, l1, l2⟩, ⟨m0, m1, m2⟩⟩ := HSS.out w hSw; go_simp; try (with_reducible rfl))
            try simp only [Act.put, List.getElem_toArray, List.getElem_cons_succ, List.getElem_cons_zero, List.setIfInBounds_toArray, List.set_cons_zero, List.set_cons_succ]
            refine wpAnyH_ready (rs := [25]) (by kernel_rfl) (by simp) ?_
            refine AllReadyH.cons rfl (fun K hK => ?_) ?_
            · go_simp
              refine (HOO.out _).mono ?_
              rintro e w3 ⟨rfl, hb3⟩
              have hB3 := hHeld.trans (hb3.mono hHeld.size)
              refine hK.out _ _ hB3 (fun hHeld => ?_)
              clear hb3 hB3
              clear hK K
              try simp only [Act.put, List.getElem_toArray, List.getElem_cons_succ, List.getElem_cons_zero, List.setIfInBounds_toArray, List.set_cons_zero, List.set_cons_succ]
              refine wpAnyH_take (i := 26) (v := ?_) rfl (by kernel_rfl) (by kernel_rfl) (by kernel_rfl) (fun _ _ _ h => h) (Or.inl ⟨by rfl, ?_⟩) (by assumption) ?_
              rotate_left
              · (intro w hSw; (try dsimp only at hSw); go_simp; try (with_reducible rfl))
              try simp only [Act.put, List.getElem_toArray, List.getElem_cons_succ, List.getElem_cons_zero, List.setIfInBounds_toArray, List.set_cons_zero, List.set_cons_succ]
              refine wpAnyH_take (i := 27) (v := ?_) rfl (by kernel_rfl) (by kernel_rfl) (by kernel_rfl) (fun _ _ _ h => h) (Or.inl ⟨by rfl, ?_⟩) (by assumption) ?_
              rotate_left
              · (intro w hSw; (try dsimp only at hSw); go_simp; try (with_reducible rfl))
              try simp only [Act.put, List.getElem_toArray, List.getElem_cons_succ, List.getElem_cons_zero, List.setIfInBounds_toArray, List.set_cons_zero, List.set_cons_succ]
              refine wpAnyH_done (by kernel_rfl) ?_ _
              have HBW := Lib.hid (HB.out.trans (hHeld.mono HB.out.size))
              have HKW := Lib.hid (HK.out.below hHeld HK.out.lt)
              have HOW := Lib.hid (HO.out.below hHeld HO.out.lt)
              clear hHeld
              have hd : decide (o < 0) = false := by simp; omega
              have hla := lastA_last HPP.out (HL.out i (by omega)) hn
              have co : (w3).cell? ⟨w.heap.size + 1, i, none⟩ = some (.pointer none) := by rw [HOW.out.cell i, lastRow_get _ _ _ _ (by omega), if_neg (by omega)]
              have fo := HOW.out.frozen i
              have HLA := Lib.hid hla
              clear hla
              go_wp2_with fail
              go_roundw
              case rel => exact ⟨i, ab, ao, xb, h, P1, P2, rfl, rfl, by omega, HPP.out, HA.out, by omega, fun j hj => HL.out j (by omega), HBW.out.setCell (p := ⟨w.heap.size + 1, i, none⟩) (show w.heap.size ≤ w.heap.size + 1 by omega) _, HKW.out.far (p := ⟨w.heap.size + 1, i, none⟩) (show w.heap.size ≠ w.heap.size + 1 by omega) _, by rw [Hid, ← lastRow_set _ _ _ (by omega), HLA.out]; exact HOW.out.set_ i _⟩
              case measure => simp [intOf]
            exact AllReadyH.nil
        · obtain ⟨A1, n, A2, hPA, hA1, hin, hqn⟩ := nxtB_split (j := i) (A := P2) hn
          rw [hqn Q] at HC2
          have ho := hP n (by rw [HPP.out, hPA]; simp)
          have hnm : n ∈ P ++ Q := List.mem_append_left _ (by rw [HPP.out, hPA]; simp)
          have hnl := (HNE.out n hnm).1
          have hnd : Nodes w (n :: (A2 ++ Q)) := by
            have h1 := HT.out.nodes
            rw [HPP.out, hPA] at h1
            have e : P1 ++ (A1 ++ n :: A2) ++ Q = (P1 ++ A1) ++ n :: (A2 ++ Q) := by simp
            rw [e] at h1
            exact Nodes.tail h1
          have hnk : Blk w n.nb 66 (nodeC n) := hnd.1.1
          have HND := Lib.hid hnd
          have HA1 := Lib.hid hA1
          have HPA := Lib.hid hPA
          clear hqn hPA hA1 hnd
          have hO := fun w' => cOrder_any how n.e.k.s n.e.k.k s q n.e.k.u u w'
          have hSS : ∀ w', Below wr.heap.size wr w' → (w'.cell? ⟨ab, ao + 4, none⟩ = some (.slice (some ⟨xb, 0, none⟩) h h) ∧ w'.cell? ⟨xb, i, none⟩ = some (.pointer (some ⟨n.nb, 0, none⟩)) ∧ w'.cell? ⟨g, 0, none⟩ = some (.int .i64 how)) ∧
              (w'.cell? ⟨n.nb, 0, none⟩ = some (.string n.e.k.u) ∧ w'.cell? ⟨n.nb, 1, none⟩ = some (.int .u64 n.e.k.s) ∧ w'.cell? ⟨n.nb, 2, none⟩ = some (.int .i64 n.e.k.k)) ∧
              (w'.cell? ⟨w.heap.size, 0, none⟩ = some (.string u) ∧ w'.cell? ⟨w.heap.size, 1, none⟩ = some (.int .u64 s) ∧ w'.cell? ⟨w.heap.size, 2, none⟩ = some (.int .i64 q)) := by
            intro w' h'
            have hB := HB.out.trans (h'.mono HB.out.size)
            have hX := HK.out.below h' HK.out.lt
            exact ⟨⟨HC1.out _ hB, HC2.out _ hB, HC3.out _ hB⟩, ⟨(hB.cell (p := ⟨n.nb, 0, none⟩) hnl).trans (hnk.cell 0), (hB.cell (p := ⟨n.nb, 1, none⟩) hnl).trans (hnk.cell 1), (hB.cell (p := ⟨n.nb, 2, none⟩) hnl).trans (hnk.cell 2)⟩, hX.cell 0, hX.cell 1, hX.cell 2⟩
          have HSS := Lib.hid hSS
          have hk2 : ({ u := n.e.k.u, s := n.e.k.s, k := n.e.k.k } : K) = n.e.k := rfl
          rw [hk2] at hO
          generalize ordK how n.e.k ⟨u, s, q⟩ = o at *
          have HOO := Lib.hid hO
          clear hSS hO hk2
          go_wp2_with fail
          refine wp_region_held_drew (S := fun w' => Below wr.heap.size wr w') (by kernel_rfl) (Below.refl _ _).drew (fun hHeld => ?_)
          refine wpAnyH_take (i := 0) (v := ?_) rfl (by kernel_rfl) (by kernel_rfl) (by kernel_rfl) (fun _ _ _ h => h) (Or.inl ⟨by rfl, ?_⟩) (by assumption) ?_
          rotate_left
          · (intro w hSw; obtain ⟨⟨k0, k1, k2⟩, ⟨l0, l1, l2⟩, ⟨m0, m1, m2⟩⟩ := HSS.out w hSw; go_simp; try (with_reducible rfl))
          try simp only [Act.put, List.getElem_toArray, List.getElem_cons_succ, List.getElem_cons_zero, List.setIfInBounds_toArray, List.set_cons_zero, List.set_cons_succ]
          refine wpAnyH_take (i := 1) (v := ?_) rfl (by kernel_rfl) (by kernel_rfl) (by kernel_rfl) (fun _ _ _ h => h) (Or.inl ⟨by rfl, ?_⟩) (by assumption) ?_
          rotate_left
          · (intro w hSw; obtain ⟨⟨k0, k1, k2⟩, ⟨l0, l1, l2⟩, ⟨m0, m1, m2⟩⟩ := HSS.out w hSw; go_simp; try (with_reducible rfl))
          try simp only [Act.put, List.getElem_toArray, List.getElem_cons_succ, List.getElem_cons_zero, List.setIfInBounds_toArray, List.set_cons_zero, List.set_cons_succ]
          refine wpAnyH_take (i := 2) (v := ?_) rfl (by kernel_rfl) (by kernel_rfl) (by kernel_rfl) (fun _ _ _ h => h) (Or.inl ⟨by rfl, ?_⟩) (by assumption) ?_
          rotate_left
          · (intro w hSw; obtain ⟨⟨k0, k1, k2⟩, ⟨l0, l1, l2⟩, ⟨m0, m1, m2⟩⟩ := HSS.out w hSw; go_simp; try (with_reducible rfl))
          try simp only [Act.put, List.getElem_toArray, List.getElem_cons_succ, List.getElem_cons_zero, List.setIfInBounds_toArray, List.set_cons_zero, List.set_cons_succ]
          refine wpAnyH_take (i := 3) (v := ?_) rfl (by kernel_rfl) (by kernel_rfl) (by kernel_rfl) (fun _ _ _ h => h) (Or.inl ⟨by rfl, ?_⟩) (by assumption) ?_
          rotate_left
          · (intro w hSw; obtain ⟨⟨k0, k1, k2⟩, ⟨l0, l1, l2⟩, ⟨m0, m1, m2⟩⟩ := HSS.out w hSw; go_simp; try (with_reducible rfl))
          try simp only [Act.put, List.getElem_toArray, List.getElem_cons_succ, List.getElem_cons_zero, List.setIfInBounds_toArray, List.set_cons_zero, List.set_cons_succ]
          refine wpAnyH_take (i := 4) (v := ?_) rfl (by kernel_rfl) (by kernel_rfl) (by kernel_rfl) (fun _ _ _ h => h) (Or.inl ⟨by rfl, ?_⟩) (by assumption) ?_
          rotate_left
          · (intro w hSw; obtain ⟨⟨k0, k1, k2⟩, ⟨l0, l1, l2⟩, ⟨m0, m1, m2⟩⟩ := HSS.out w hSw; go_simp; try (with_reducible rfl))
          try simp only [Act.put, List.getElem_toArray, List.getElem_cons_succ, List.getElem_cons_zero, List.setIfInBounds_toArray, List.set_cons_zero, List.set_cons_succ]
          refine wpAnyH_take (i := 5) (v := ?_) rfl (by kernel_rfl) (by kernel_rfl) (by kernel_rfl) (fun _ _ _ h => h) (Or.inl ⟨by rfl, ?_⟩) (by assumption) ?_
          rotate_left
          · (intro w hSw; obtain ⟨⟨k0, k1, k2⟩, ⟨l0, l1, l2⟩, ⟨m0, m1, m2⟩⟩ := HSS.out w hSw; go_simp; try (with_reducible rfl))
          try simp only [Act.put, List.getElem_toArray, List.getElem_cons_succ, List.getElem_cons_zero, List.setIfInBounds_toArray, List.set_cons_zero, List.set_cons_succ]
          refine wpAnyH_take (i := 6) (v := ?_) rfl (by kernel_rfl) (by kernel_rfl) (by kernel_rfl) (fun _ _ _ h => h) (Or.inl ⟨by rfl, ?_⟩) (by assumption) ?_
          rotate_left
          · (intro w hSw; obtain ⟨⟨k0, k1, k2⟩, ⟨l0, l1, l2⟩, ⟨m0, m1, m2⟩⟩ := HSS.out w hSw; go_simp; try (with_reducible rfl))
          try simp only [Act.put, List.getElem_toArray, List.getElem_cons_succ, List.getElem_cons_zero, List.setIfInBounds_toArray, List.set_cons_zero, List.set_cons_succ]
          refine wpAnyH_take (i := 7) (v := ?_) rfl (by kernel_rfl) (by kernel_rfl) (by kernel_rfl) (fun _ _ _ h => h) (Or.inl ⟨by rfl, ?_⟩) (by assumption) ?_
          rotate_left
          · (intro w hSw; obtain ⟨⟨k0, k1, k2⟩, ⟨l0, l1, l2⟩, ⟨m0, m1, m2⟩⟩ := HSS.out w hSw; go_simp; try (with_reducible rfl))
          try simp only [Act.put, List.getElem_toArray, List.getElem_cons_succ, List.getElem_cons_zero, List.setIfInBounds_toArray, List.set_cons_zero, List.set_cons_succ]
          refine wpAnyH_take (i := 8) (v := ?_) rfl (by kernel_rfl) (by kernel_rfl) (by kernel_rfl) (fun _ _ _ h => h) (Or.inl ⟨by rfl, ?_⟩) (by assumption) ?_
          rotate_left
          · (intro w hSw; obtain ⟨⟨k0, k1, k2⟩, ⟨l0, l1, l2⟩, ⟨m0, m1, m2⟩⟩ := HSS.out w hSw; go_simp; try (with_reducible rfl))
          try simp only [Act.put, List.getElem_toArray, List.getElem_cons_succ, List.getElem_cons_zero, List.setIfInBounds_toArray, List.set_cons_zero, List.set_cons_succ]
          refine wpAnyH_take (i := 9) (v := ?_) rfl (by kernel_rfl) (by kernel_rfl) (by kernel_rfl) (fun _ _ _ h => h) (Or.inl ⟨by rfl, ?_⟩) (by assumption) ?_
          rotate_left
          · (intro w hSw; obtain ⟨⟨k0, k1, k2⟩, ⟨l0, l1, l2⟩, ⟨m0, m1, m2⟩⟩ := HSS.out w hSw; go_simp; try (with_reducible rfl))
          try simp only [Act.put, List.getElem_toArray, List.getElem_cons_succ, List.getElem_cons_zero, List.setIfInBounds_toArray, List.set_cons_zero, List.set_cons_succ]
          refine wpAnyH_take (i := 10) (v := ?_) rfl (by kernel_rfl) (by kernel_rfl) (by kernel_rfl) (fun _ _ _ h => h) (Or.inl ⟨by rfl, ?_⟩) (by assumption) ?_
          rotate_left
          · (intro w hSw; obtain ⟨⟨k0, k1, k2⟩, ⟨l0, l1, l2⟩, ⟨m0, m1, m2⟩⟩ := HSS.out w hSw; go_simp; try (with_reducible rfl))
          try simp only [Act.put, List.getElem_toArray, List.getElem_cons_succ, List.getElem_cons_zero, List.setIfInBounds_toArray, List.set_cons_zero, List.set_cons_succ]
          refine wpAnyH_take (i := 11) (v := ?_) rfl (by kernel_rfl) (by kernel_rfl) (by kernel_rfl) (fun _ _ _ h => h) (Or.inl ⟨by rfl, ?_⟩) (by assumption) ?_
          rotate_left
          · (intro w hSw; obtain ⟨⟨k0, k1, k2⟩, ⟨l0, l1, l2⟩, ⟨m0, m1, m2⟩⟩ := HSS.out w hSw; go_simp; try (with_reducible rfl))
          try simp only [Act.put, List.getElem_toArray, List.getElem_cons_succ, List.getElem_cons_zero, List.setIfInBounds_toArray, List.set_cons_zero, List.set_cons_succ]
          refine wpAnyH_take (i := 12) (v := ?_) rfl (by kernel_rfl) (by kernel_rfl) (by kernel_rfl) (fun _ _ _ h => h) (Or.inl ⟨by rfl, ?_⟩) (by assumption) ?_
          rotate_left
          · (intro w hSw; obtain ⟨⟨k0, k1, k2⟩, ⟨l0, l1, l2⟩, ⟨m0, m1, m2⟩⟩ := HSS.out w hSw; go_simp; try (with_reducible rfl))
          try simp only [Act.put, List.getElem_toArray, List.getElem_cons_succ, List.getElem_cons_zero, List.setIfInBounds_toArray, List.set_cons_zero, List.set_cons_succ]
          refine wpAnyH_take (i := 13) (v := ?_) rfl (by kernel_rfl) (by kernel_rfl) (by kernel_rfl) (fun _ _ _ h => h) (Or.inl ⟨by rfl, ?_⟩) (by assumption) ?_
          rotate_left
          · (intro w hSw; obtain ⟨⟨k0, k1, k2⟩, ⟨l0, l1, l2⟩, ⟨m0, m1, m2⟩⟩ := HSS.out w hSw; go_simp; try (with_reducible rfl))
          try simp only [Act.put, List.getElem_toArray, List.getElem_cons_succ, List.getElem_cons_zero, List.setIfInBounds_toArray, List.set_cons_zero, List.set_cons_succ]
          refine wpAnyH_take (i := 14) (v := ?_) rfl (by kernel_rfl) (by kernel_rfl) (by kernel_rfl) (fun _ _ _ h => h) (Or.inl ⟨by rfl, ?_⟩) (by assumption) ?_
          rotate_left
          · (intro w hSw; obtain ⟨⟨k0, k1, k2⟩, ⟨l0, l1, l2⟩, ⟨m0, m1, m2⟩⟩ := HSS.out w hSw; go_simp; try (with_reducible rfl))
          try simp only [Act.put, List.getElem_toArray, List.getElem_cons_succ, List.getElem_cons_zero, List.setIfInBounds_toArray, List.set_cons_zero, List.set_cons_succ]
          refine wpAnyH_take (i := 15) (v := ?_) rfl (by kernel_rfl) (by kernel_rfl) (by kernel_rfl) (fun _ _ _ h => h) (Or.inl ⟨by rfl, ?_⟩) (by assumption) ?_
          rotate_left
          · (intro w hSw; obtain ⟨⟨k0, k1, k2⟩, ⟨l0, l1, l2⟩, ⟨m0, m1, m2⟩⟩ := HSS.out w hSw; go_simp; try (with_reducible rfl))
          try simp only [Act.put, List.getElem_toArray, List.getElem_cons_succ, List.getElem_cons_zero, List.setIfInBounds_toArray, List.set_cons_zero, List.set_cons_succ]
          refine wpAnyH_take (i := 16) (v := ?_) rfl (by kernel_rfl) (by kernel_rfl) (by kernel_rfl) (fun _ _ _ h => h) (Or.inl ⟨by rfl, ?_⟩) (by assumption) ?_
          rotate_left
          · (intro w hSw; obtain ⟨⟨k0, k1, k2⟩, ⟨l0, l1, l2⟩, ⟨m0, m1, m2⟩⟩ := HSS.out w hSw; go_simp; try (with_reducible rfl))
          try simp only [Act.put, List.getElem_toArray, List.getElem_cons_succ, List.getElem_cons_zero, List.setIfInBounds_toArray, List.set_cons_zero, List.set_cons_succ]
          refine wpAnyH_take (i := 17) (v := ?_) rfl (by kernel_rfl) (by kernel_rfl) (by kernel_rfl) (fun _ _ _ h => h) (Or.inl ⟨by rfl, ?_⟩) (by assumption) ?_
          rotate_left
          · (intro w hSw; obtain ⟨⟨k0, k1, k2⟩, ⟨l0, l1, l2⟩, ⟨m0, m1, m2⟩⟩ := HSS.out w hSw; go_simp; try (with_reducible rfl))
          try simp only [Act.put, List.getElem_toArray, List.getElem_cons_succ, List.getElem_cons_zero, List.setIfInBounds_toArray, List.set_cons_zero, List.set_cons_succ]
          refine wpAnyH_take (i := 18) (v := ?_) rfl (by kernel_rfl) (by kernel_rfl) (by kernel_rfl) (fun _ _ _ h => h) (Or.inl ⟨by rfl, ?_⟩) (by assumption) ?_
          rotate_left
          · (intro w hSw; obtain ⟨⟨k0, k1, k2⟩, ⟨l0, l1, l2⟩, ⟨m0, m1, m2⟩⟩ := HSS.out w hSw; go_simp; try (with_reducible rfl))
          try simp only [Act.put, List.getElem_toArray, List.getElem_cons_succ, List.getElem_cons_zero, List.setIfInBounds_toArray, List.set_cons_zero, List.set_cons_succ]
          refine wpAnyH_take (i := 19) (v := ?_) rfl (by kernel_rfl) (by kernel_rfl) (by kernel_rfl) (fun _ _ _ h => h) (Or.inl ⟨by rfl, ?_⟩) (by assumption) ?_
          rotate_left
          · (intro w hSw; obtain ⟨⟨k0, k1, k2⟩, ⟨l0, l1, l2⟩, ⟨m0, m1, m2⟩⟩ := HSS.out w hSw; go_simp; try (with_reducible rfl))
          try simp only [Act.put, List.getElem_toArray, List.getElem_cons_succ, List.getElem_cons_zero, List.setIfInBounds_toArray, List.set_cons_zero, List.set_cons_succ]
          refine wpAnyH_take (i := 20) (v := ?_) rfl (by kernel_rfl) (by kernel_rfl) (by kernel_rfl) (fun _ _ _ h => h) (Or.inl ⟨by rfl, ?_⟩) (by assumption) ?_
          rotate_left
          · (intro w hSw; obtain ⟨⟨k0, k1, k2⟩, ⟨l0, l1, l2⟩, ⟨m0, m1, m2⟩⟩ := HSS.out w hSw; go_simp; try (with_reducible rfl))
          try simp only [Act.put, List.getElem_toArray, List.getElem_cons_succ, List.getElem_cons_zero, List.setIfInBounds_toArray, List.set_cons_zero, List.set_cons_succ]
          refine wpAnyH_take (i := 21) (v := ?_) rfl (by kernel_rfl) (by kernel_rfl) (by kernel_rfl) (fun _ _ _ h => h) (Or.inl ⟨by rfl, ?_⟩) (by assumption) ?_
          rotate_left
          · (intro w hSw; obtain ⟨⟨k0, k1, k2⟩, ⟨l0, l1, l2⟩, ⟨m0, m1, m2⟩⟩ := HSS.out w hSw; go_simp; try (with_reducible rfl))
          try simp only [Act.put, List.getElem_toArray, List.getElem_cons_succ, List.getElem_cons_zero, List.setIfInBounds_toArray, List.set_cons_zero, List.set_cons_succ]
          refine wpAnyH_take (i := 22) (v := ?_) rfl (by kernel_rfl) (by kernel_rfl) (by kernel_rfl) (fun _ _ _ h => h) (Or.inl ⟨by rfl, ?_⟩) (by assumption) ?_
          rotate_left
          · (intro w hSw; obtain ⟨⟨k0, k1, k2⟩, ⟨l0, l1, l2⟩, ⟨m0, m1, m2⟩⟩ := HSS.out w hSw; go_simp; try (with_reducible rfl))
          try simp only [Act.put, List.getElem_toArray, List.getElem_cons_succ, List.getElem_cons_zero, List.setIfInBounds_toArray, List.set_cons_zero, List.set_cons_succ]
          refine wpAnyH_take (i := 23) (v := ?_) rfl (by kernel_rfl) (by kernel_rfl) (by kernel_rfl) (fun _ _ _ h => h) (Or.inl ⟨by rfl, ?_⟩) (by assumption) ?_
          rotate_left
          · (intro w hSw; obtain ⟨⟨k0, k1, k2⟩, ⟨l0, l1, l2⟩, ⟨m0, m1, m2⟩⟩ := HSS.out w hSw; go_simp; try (with_reducible rfl))
          try simp only [Act.put, List.getElem_toArray, List.getElem_cons_succ, List.getElem_cons_zero, List.setIfInBounds_toArray, List.set_cons_zero, List.set_cons_succ]
          refine wpAnyH_take (i := 24) (v := ?_) rfl (by kernel_rfl) (by kernel_rfl) (by kernel_rfl) (fun _ _ _ h => h) (Or.inl ⟨by rfl, ?_⟩) (by assumption) ?_
          rotate_left
          · (intro w hSw; obtain ⟨⟨k0, k1, k2⟩, ⟨l0, l1, l2⟩, ⟨m0, m1, m2⟩⟩ := HSS.out w hSw; go_simp; try (with_reducible rfl))
          try simp only [Act.put, List.getElem_toArray, List.getElem_cons_succ, List.getElem_cons_zero, List.setIfInBounds_toArray, List.set_cons_zero, List.set_cons_succ]
          refine wpAnyH_ready (rs := [25]) (by kernel_rfl) (by simp) ?_
          refine AllReadyH.cons rfl (fun K hK => ?_) ?_
          · go_simp
            refine (HOO.out _).mono ?_
            rintro e w3 ⟨rfl, hb3⟩
            have hB3 := hHeld.trans (hb3.mono hHeld.size)
            refine hK.out _ _ hB3 (fun hHeld => ?_)
            clear hb3 hB3
            clear hK K
            try simp only [Act.put, List.getElem_toArray, List.getElem_cons_succ, List.getElem_cons_zero, List.setIfInBounds_toArray, List.set_cons_zero, List.set_cons_succ]
            refine wpAnyH_take (i := 26) (v := ?_) rfl (by kernel_rfl) (by kernel_rfl) (by kernel_rfl) (fun _ _ _ h => h) (Or.inl ⟨by rfl, ?_⟩) (by assumption) ?_
            rotate_left
            · (intro w hSw; (try dsimp only at hSw); go_simp; try (with_reducible rfl))
            try simp only [Act.put, List.getElem_toArray, List.getElem_cons_succ, List.getElem_cons_zero, List.setIfInBounds_toArray, List.set_cons_zero, List.set_cons_succ]
            refine wpAnyH_take (i := 27) (v := ?_) rfl (by kernel_rfl) (by kernel_rfl) (by kernel_rfl) (fun _ _ _ h => h) (Or.inl ⟨by rfl, ?_⟩) (by assumption) ?_
            rotate_left
            · (intro w hSw; (try dsimp only at hSw); go_simp; try (with_reducible rfl))
            try simp only [Act.put, List.getElem_toArray, List.getElem_cons_succ, List.getElem_cons_zero, List.setIfInBounds_toArray, List.set_cons_zero, List.set_cons_succ]
            refine wpAnyH_done (by kernel_rfl) ?_ _
            have HBW := Lib.hid (HB.out.trans (hHeld.mono HB.out.size))
            have HKW := Lib.hid (HK.out.below hHeld HK.out.lt)
            have HOW := Lib.hid (HO.out.below hHeld HO.out.lt)
            clear hHeld
            have hd : decide (o < 0) = true := by simp; omega
            have k1 := HC1.out _ HBW.out
            have k2 := HC2.out _ HBW.out
            simp only [ptrV] at k2
            go_wp2_with fail
            go_roundg A2.length
            case rel => exact ⟨n.nb, 0, n.xb, n.h, P1 ++ A1 ++ [n], A2, rfl, rfl, by rw [Hid, HPP.out, HPA.out]; simp, HND.out.at_, by omega, fun j hj => by rw [lastA_snoc, if_pos (by omega)], HBW.out, HKW.out, HOW.out⟩
            case measure => rw [HPA.out]; simp; omega
          exact AllReadyH.nil
end Go.Proofs.Ytodnojpolkdlmaa
