/-
  The entries that there are now, of which a condition holds: walked for All and for Back.
-/
import Derived.Test.YtodnojpolkdlmaaEnt
namespace Go.Proofs.Ytodnojpolkdlmaa
set_option linter.unusedSimpArgs false
set_option linter.unusedVariables false
open Go.RowKit Go.IntWalk
attribute [local go_sem ↓] Go.wp_at_zero Go.wp_at_succ

set_option maxHeartbeats 4000000 in
set_option maxRecDepth 100000 in
theorem mNow_all {w : World} {g : Nat} {how : Int} {hl : List UInt8} {S : TS} {F H : List Nat} (ht : Tab w g how hl S F H) (hn : S.n ≤ 1000000) (bt bk : Nat) (f : K) (hbt : w.cell? ⟨bt, 0, none⟩ = some (.pointer (some ⟨g, 0, none⟩))) (hbk : w.cell? ⟨bk, 0, none⟩ = some (.string f.u) ∧ w.cell? ⟨bk, 1, none⟩ = some (.int .u64 f.s) ∧ w.cell? ⟨bk, 2, none⟩ = some (.int .i64 f.k)) :
    Calls Try.prog 31 #[.pointer (some ⟨g, 0, none⟩), .func (.func 32) #[] #[.pointer (some ⟨bt, 0, none⟩), .pointer (some ⟨bk, 0, none⟩)]] w fun e w' => ∃ v, e = .returned v ∧ Below w.heap.size w w' ∧ Own w' w.heap.size 47 4 v (S.l.filter (holdsA how f)).length (entsC (S.l.filter (holdsA how f))) := by
  obtain ⟨ie, hi, hz0, hz1, hz2⟩ := info_parts info_entryM
  obtain ⟨hb, hA, hc, tv, hu, hs, hk', hval, N, hp⟩ := ht.parts
  have hlt := hp.tbl.blk.lt
  have hNl : N.length ≤ 1000000 := by
    have h1 := congrArg List.length hp.nl
    have h2 : S.n = S.l.length + S.t.length := rfl
    rw [List.length_map] at h1; omega
  have c6 : w.cell? ⟨g, 6, none⟩ = some (.slice (some ⟨hb, 0, none⟩) 12 12) := hp.tbl.blk.cell 6
  have r0 : w.cell? ⟨hb, 0, none⟩ = some (ptrV (N.head?.map (·.nb))) := by
    have := (hp.tbl.row.cell 0).trans (rowN_at _ 12 0 (by omega))
    rwa [nxtB_first hp.tbl.nodes.h1] at this
  have g0 : w.cell? ⟨g, 0, none⟩ = some (.int .i64 how) := hp.tbl.blk.cell 0
  have hbtl := World.block_lt_of_cell? _ _ hbt
  have hbkl := World.block_lt_of_cell? _ _ hbk.1
  have HH := Lib.hid (fun e w' (h' : Below w.heap.size w w') => mAll11_any bt bk g how f e w' ((h'.cell (p := ⟨bt, 0, none⟩) hbtl).trans hbt) ((h'.cell (p := ⟨g, 0, none⟩) hlt).trans g0)
    ⟨(h'.cell (p := ⟨bk, 0, none⟩) hbkl).trans hbk.1, (h'.cell (p := ⟨bk, 1, none⟩) hbkl).trans hbk.2.1, (h'.cell (p := ⟨bk, 2, none⟩) hbkl).trans hbk.2.2⟩ (Nat.lt_of_lt_of_le hbtl h'.size) (Nat.lt_of_lt_of_le hbkl h'.size) (Nat.lt_of_lt_of_le hlt h'.size))
  rw [← hp.nl]
  have HN := Lib.hid hp.tbl.nodes
  clear hp ht hbt hbk g0
  obtain ⟨p0, hp0⟩ : ∃ p0, p0 = ptrV (N.head?.map (·.nb)) := ⟨_, rfl⟩
  rw [← hp0] at r0
  have HP0 := Lib.hid hp0
  clear hp0
  go_enter Try.func31, Try.ntmps31
  go_wp2_with fail
  go_loopg [5, 6] N.length (fun gh s5 s6 wr => ∃ P Q : List Nd, gh = Q.length ∧ Hid (N = P ++ Q) ∧ s6 = ptrV (Q.head?.map (·.nb)) ∧ Hid (Below w.heap.size w wr) ∧ Hid (Own wr w.heap.size 47 4 s5 ((P.map (·.e)).filter (holdsA how f)).length (entsC ((P.map (·.e)).filter (holdsA how f)))))
  case atStart => exact ⟨[], N, rfl, rfl, HP0.out, Below.refl _ _, Own.nil _ _ _ _⟩
  case round =>
    clear c6 r0
    obtain ⟨P, Q, rfl, HPQ, rfl, HB, HO⟩ := hrel
    rcases Q with _ | ⟨n, Q1⟩
    · simp only [List.head?_nil, Option.map_none, ptrV]
      go_wp2_with fail
      go_ret
      have hN : N = P := by rw [HPQ.out, List.append_nil]
      exact ⟨_, rfl, HB.out, by rw [hN]; exact HO.out⟩
    · simp only [List.head?_cons, Option.map_some, ptrV]
      have hnd : Nodes w (n :: Q1) := by have := HN.out; rw [HPQ.out] at this; exact Nodes.tail this
      have hPl : P.length ≤ 1000000 := by rw [HPQ.out] at hNl; simp at hNl; omega
      have hfl : ((P.map (·.e)).filter (holdsA how f)).length ≤ 1000000 := Nat.le_trans (List.length_filter_le _ _) (by simpa using hPl)
      have hn1 := hnd.1.2.2
      have hnb := hnd.1.1.lt
      have hnx := hnd.1.2.1.lt
      have hrow : w.cell? ⟨n.xb, 0, none⟩ = some (ptrV (Q1.head?.map (·.nb))) := by
        have := (hnd.1.2.1.cell 0).trans (rowN_at _ n.h 0 (by omega))
        rwa [nxtB_first (fun m hm => hnd.2.h1 m hm)] at this
      have hcs : ∀ w', Below w.heap.size w w' → (w'.cell? ⟨n.nb, 0, none⟩ = some (.string n.e.k.u) ∧ w'.cell? ⟨n.nb, 1, none⟩ = some (.int .u64 n.e.k.s) ∧ w'.cell? ⟨n.nb, 2, none⟩ = some (.int .i64 n.e.k.k) ∧ w'.cell? ⟨n.nb, 3, none⟩ = some (.string n.e.v)) ∧
          w'.cell? ⟨n.nb, 4, none⟩ = some (.slice (some ⟨n.xb, 0, none⟩) n.h n.h) ∧ w'.cell? ⟨n.xb, 0, none⟩ = some (ptrV (Q1.head?.map (·.nb))) := fun w' h' => by
        have hk := hnd.1.1.below h' hnb
        exact ⟨⟨hk.cell 0, hk.cell 1, hk.cell 2, hk.cell 3⟩, hk.cell 4, (h'.cell (p := ⟨n.xb, 0, none⟩) hnx).trans hrow⟩
      have HCS := Lib.hid hcs
      have HHN := Lib.hid (HH.out n.e)
      clear hnd hrow hcs
      have hni : (0 : Int) < (n.h : Int) := by omega
      obtain ⟨⟨k0, k1, k2, k3⟩, k4, k5⟩ := HCS.out wr HB.out
      go_wp2_with fail
      refine (HHN.out wr HB.out).mono ?_
      rintro e w3 ⟨rfl, hb3⟩
      have HO3 := Lib.hid (HO.out.keep hb3 (Nat.le_refl _))
      have HB3 := Lib.hid (HB.out.trans (hb3.mono HB.out.size))
      clear hb3 HO HB k0 k1 k2 k3 k4 k5
      obtain ⟨⟨k0, k1, k2, k3⟩, k4, k5⟩ := HCS.out w3 HB3.out
      have hpe : holdsA how f n.e = holdsA how f n.e := rfl
      generalize hpb : holdsA how f n.e = pb at *
      rcases pb with _ | _
      · go_wp2_with fail
        go_roundg Q1.length
        case measure => simp
        case rel => exact ⟨P ++ [n], Q1, rfl, by rw [Hid, HPQ.out]; simp, rfl, HB3.out, by rw [List.map_append, List.filter_append, List.map_cons, List.map_nil, List.filter_cons, hpb]; (simp only [List.filter_nil, Bool.false_eq_true, if_false, List.append_nil]; exact HO3.out)⟩
      · have HO4 := Lib.hid (HO3.out.alloc (.cells #[.string n.e.k.u, .int .u64 n.e.k.s, .int .i64 n.e.k.k, .string n.e.v] 47))
        have HB4 := Lib.hid (HB3.out.alloc HB3.out.size (.cells #[.string n.e.k.u, .int .u64 n.e.k.s, .int .i64 n.e.k.k, .string n.e.v] 47))
        have HN4 : Hid (Rd (w3.alloc (.cells #[.string n.e.k.u, .int .u64 n.e.k.s, .int .i64 n.e.k.k, .string n.e.v] 47)) (w3.heap.size + 1) (some ⟨w3.heap.size, 0, none⟩) (entC n.e)) := Rd.new w3 #[.string n.e.k.u, .int .u64 n.e.k.s, .int .i64 n.e.k.k, .string n.e.v] 47
        have hz4 : w.heap.size ≤ (w3.alloc (.cells #[.string n.e.k.u, .int .u64 n.e.k.s, .int .i64 n.e.k.k, .string n.e.v] 47)).heap.size := HB4.out.size
        go_wp2_with (at_builtin; go_loud (refine wpList_append _ rfl _ _ 40 40 rfl w.heap.size 47 ie _ 4 48 Try.underlying40 hi hz0 hz1 hz2 rfl (by decide) _ _ _ rfl HO4.out _ 1 _ rfl (Src.slice _ Try.underlying40 rfl HN4.out) ?c1 ?c2 ?c3 ?c4 ?_; (case c1 => simp [entC, Value.oneCell']); (case c2 => (unfold maxLen; omega)); (case c3 => omega); (case c4 => exact hz4); intro v5 w5 hO5 hG5 hl5; have hb5 := HB4.out.grown hG5 HB4.out.size (fun j hj => (HO4.out.lt j hj).1); have HO5 := Lib.hid hO5; have HB5 := Lib.hid hb5; clear hO5 hG5 hl5 hb5 k0 k1 k2 k3 k4 k5; obtain ⟨⟨k0, k1, k2, k3⟩, k4, k5⟩ := HCS.out w5 HB5.out))
        go_roundg Q1.length
        case measure => simp
        case rel => exact ⟨P ++ [n], Q1, rfl, by rw [Hid, HPQ.out]; simp, rfl, HB5.out, by rw [List.map_append, List.filter_append, List.map_cons, List.map_nil, List.filter_cons, hpb]; (simp only [List.filter_nil, if_true]; rw [entsC_snoc, List.length_append]; exact HO5.out)⟩
set_option maxHeartbeats 4000000 in
set_option maxRecDepth 100000 in
theorem mNow_back {w : World} {g : Nat} {how : Int} {hl : List UInt8} {S : TS} {F H : List Nat} (ht : Tab w g how hl S F H) (hn : S.n ≤ 1000000) (bt bk : Nat) (f : K) (hbt : w.cell? ⟨bt, 0, none⟩ = some (.pointer (some ⟨g, 0, none⟩))) (hbk : w.cell? ⟨bk, 0, none⟩ = some (.string f.u) ∧ w.cell? ⟨bk, 1, none⟩ = some (.int .u64 f.s) ∧ w.cell? ⟨bk, 2, none⟩ = some (.int .i64 f.k)) :
    Calls Try.prog 31 #[.pointer (some ⟨g, 0, none⟩), .func (.func 36) #[] #[.pointer (some ⟨bt, 0, none⟩), .pointer (some ⟨bk, 0, none⟩)]] w fun e w' => ∃ v, e = .returned v ∧ Below w.heap.size w w' ∧ Own w' w.heap.size 47 4 v (S.l.filter (holdsB how f)).length (entsC (S.l.filter (holdsB how f))) := by
  obtain ⟨ie, hi, hz0, hz1, hz2⟩ := info_parts info_entryM
  obtain ⟨hb, hA, hc, tv, hu, hs, hk', hval, N, hp⟩ := ht.parts
  have hlt := hp.tbl.blk.lt
  have hNl : N.length ≤ 1000000 := by
    have h1 := congrArg List.length hp.nl
    have h2 : S.n = S.l.length + S.t.length := rfl
    rw [List.length_map] at h1; omega
  have c6 : w.cell? ⟨g, 6, none⟩ = some (.slice (some ⟨hb, 0, none⟩) 12 12) := hp.tbl.blk.cell 6
  have r0 : w.cell? ⟨hb, 0, none⟩ = some (ptrV (N.head?.map (·.nb))) := by
    have := (hp.tbl.row.cell 0).trans (rowN_at _ 12 0 (by omega))
    rwa [nxtB_first hp.tbl.nodes.h1] at this
  have g0 : w.cell? ⟨g, 0, none⟩ = some (.int .i64 how) := hp.tbl.blk.cell 0
  have hbtl := World.block_lt_of_cell? _ _ hbt
  have hbkl := World.block_lt_of_cell? _ _ hbk.1
  have HH := Lib.hid (fun e w' (h' : Below w.heap.size w w') => mBack11_any bt bk g how f e w' ((h'.cell (p := ⟨bt, 0, none⟩) hbtl).trans hbt) ((h'.cell (p := ⟨g, 0, none⟩) hlt).trans g0)
    ⟨(h'.cell (p := ⟨bk, 0, none⟩) hbkl).trans hbk.1, (h'.cell (p := ⟨bk, 1, none⟩) hbkl).trans hbk.2.1, (h'.cell (p := ⟨bk, 2, none⟩) hbkl).trans hbk.2.2⟩ (Nat.lt_of_lt_of_le hbtl h'.size) (Nat.lt_of_lt_of_le hbkl h'.size) (Nat.lt_of_lt_of_le hlt h'.size))
  rw [← hp.nl]
  have HN := Lib.hid hp.tbl.nodes
  clear hp ht hbt hbk g0
  obtain ⟨p0, hp0⟩ : ∃ p0, p0 = ptrV (N.head?.map (·.nb)) := ⟨_, rfl⟩
  rw [← hp0] at r0
  have HP0 := Lib.hid hp0
  clear hp0
  go_enter Try.func31, Try.ntmps31
  go_wp2_with fail
  go_loopg [5, 6] N.length (fun gh s5 s6 wr => ∃ P Q : List Nd, gh = Q.length ∧ Hid (N = P ++ Q) ∧ s6 = ptrV (Q.head?.map (·.nb)) ∧ Hid (Below w.heap.size w wr) ∧ Hid (Own wr w.heap.size 47 4 s5 ((P.map (·.e)).filter (holdsB how f)).length (entsC ((P.map (·.e)).filter (holdsB how f)))))
  case atStart => exact ⟨[], N, rfl, rfl, HP0.out, Below.refl _ _, Own.nil _ _ _ _⟩
  case round =>
    clear c6 r0
    obtain ⟨P, Q, rfl, HPQ, rfl, HB, HO⟩ := hrel
    rcases Q with _ | ⟨n, Q1⟩
    · simp only [List.head?_nil, Option.map_none, ptrV]
      go_wp2_with fail
      go_ret
      have hN : N = P := by rw [HPQ.out, List.append_nil]
      exact ⟨_, rfl, HB.out, by rw [hN]; exact HO.out⟩
    · simp only [List.head?_cons, Option.map_some, ptrV]
      have hnd : Nodes w (n :: Q1) := by have := HN.out; rw [HPQ.out] at this; exact Nodes.tail this
      have hPl : P.length ≤ 1000000 := by rw [HPQ.out] at hNl; simp at hNl; omega
      have hfl : ((P.map (·.e)).filter (holdsB how f)).length ≤ 1000000 := Nat.le_trans (List.length_filter_le _ _) (by simpa using hPl)
      have hn1 := hnd.1.2.2
      have hnb := hnd.1.1.lt
      have hnx := hnd.1.2.1.lt
      have hrow : w.cell? ⟨n.xb, 0, none⟩ = some (ptrV (Q1.head?.map (·.nb))) := by
        have := (hnd.1.2.1.cell 0).trans (rowN_at _ n.h 0 (by omega))
        rwa [nxtB_first (fun m hm => hnd.2.h1 m hm)] at this
      have hcs : ∀ w', Below w.heap.size w w' → (w'.cell? ⟨n.nb, 0, none⟩ = some (.string n.e.k.u) ∧ w'.cell? ⟨n.nb, 1, none⟩ = some (.int .u64 n.e.k.s) ∧ w'.cell? ⟨n.nb, 2, none⟩ = some (.int .i64 n.e.k.k) ∧ w'.cell? ⟨n.nb, 3, none⟩ = some (.string n.e.v)) ∧
          w'.cell? ⟨n.nb, 4, none⟩ = some (.slice (some ⟨n.xb, 0, none⟩) n.h n.h) ∧ w'.cell? ⟨n.xb, 0, none⟩ = some (ptrV (Q1.head?.map (·.nb))) := fun w' h' => by
        have hk := hnd.1.1.below h' hnb
        exact ⟨⟨hk.cell 0, hk.cell 1, hk.cell 2, hk.cell 3⟩, hk.cell 4, (h'.cell (p := ⟨n.xb, 0, none⟩) hnx).trans hrow⟩
      have HCS := Lib.hid hcs
      have HHN := Lib.hid (HH.out n.e)
      clear hnd hrow hcs
      have hni : (0 : Int) < (n.h : Int) := by omega
      obtain ⟨⟨k0, k1, k2, k3⟩, k4, k5⟩ := HCS.out wr HB.out
      go_wp2_with fail
      refine (HHN.out wr HB.out).mono ?_
      rintro e w3 ⟨rfl, hb3⟩
      have HO3 := Lib.hid (HO.out.keep hb3 (Nat.le_refl _))
      have HB3 := Lib.hid (HB.out.trans (hb3.mono HB.out.size))
      clear hb3 HO HB k0 k1 k2 k3 k4 k5
      obtain ⟨⟨k0, k1, k2, k3⟩, k4, k5⟩ := HCS.out w3 HB3.out
      have hpe : holdsB how f n.e = holdsB how f n.e := rfl
      generalize hpb : holdsB how f n.e = pb at *
      rcases pb with _ | _
      · go_wp2_with fail
        go_roundg Q1.length
        case measure => simp
        case rel => exact ⟨P ++ [n], Q1, rfl, by rw [Hid, HPQ.out]; simp, rfl, HB3.out, by rw [List.map_append, List.filter_append, List.map_cons, List.map_nil, List.filter_cons, hpb]; (simp only [List.filter_nil, Bool.false_eq_true, if_false, List.append_nil]; exact HO3.out)⟩
      · have HO4 := Lib.hid (HO3.out.alloc (.cells #[.string n.e.k.u, .int .u64 n.e.k.s, .int .i64 n.e.k.k, .string n.e.v] 47))
        have HB4 := Lib.hid (HB3.out.alloc HB3.out.size (.cells #[.string n.e.k.u, .int .u64 n.e.k.s, .int .i64 n.e.k.k, .string n.e.v] 47))
        have HN4 : Hid (Rd (w3.alloc (.cells #[.string n.e.k.u, .int .u64 n.e.k.s, .int .i64 n.e.k.k, .string n.e.v] 47)) (w3.heap.size + 1) (some ⟨w3.heap.size, 0, none⟩) (entC n.e)) := Rd.new w3 #[.string n.e.k.u, .int .u64 n.e.k.s, .int .i64 n.e.k.k, .string n.e.v] 47
        have hz4 : w.heap.size ≤ (w3.alloc (.cells #[.string n.e.k.u, .int .u64 n.e.k.s, .int .i64 n.e.k.k, .string n.e.v] 47)).heap.size := HB4.out.size
        go_wp2_with (at_builtin; go_loud (refine wpList_append _ rfl _ _ 40 40 rfl w.heap.size 47 ie _ 4 48 Try.underlying40 hi hz0 hz1 hz2 rfl (by decide) _ _ _ rfl HO4.out _ 1 _ rfl (Src.slice _ Try.underlying40 rfl HN4.out) ?c1 ?c2 ?c3 ?c4 ?_; (case c1 => simp [entC, Value.oneCell']); (case c2 => (unfold maxLen; omega)); (case c3 => omega); (case c4 => exact hz4); intro v5 w5 hO5 hG5 hl5; have hb5 := HB4.out.grown hG5 HB4.out.size (fun j hj => (HO4.out.lt j hj).1); have HO5 := Lib.hid hO5; have HB5 := Lib.hid hb5; clear hO5 hG5 hl5 hb5 k0 k1 k2 k3 k4 k5; obtain ⟨⟨k0, k1, k2, k3⟩, k4, k5⟩ := HCS.out w5 HB5.out))
        go_roundg Q1.length
        case measure => simp
        case rel => exact ⟨P ++ [n], Q1, rfl, by rw [Hid, HPQ.out]; simp, rfl, HB5.out, by rw [List.map_append, List.filter_append, List.map_cons, List.map_nil, List.filter_cons, hpb]; (simp only [List.filter_nil, if_true]; rw [entsC_snoc, List.length_append]; exact HO5.out)⟩
end Go.Proofs.Ytodnojpolkdlmaa
