/-
  Get, walked.
-/
import Derived.Test.YtodnojpolkdlmaaTmP
import Derived.Test.YtodnojpolkdlmaaGtA
import Derived.Deep.LoopGhost
import Derived.Deep.DeepCutAuto
namespace Go.Proofs.Ytodnojpolkdlmaa
set_option linter.unusedSimpArgs false
set_option linter.unusedVariables false
open Go.RowKit Go.IntWalk
attribute [local go_sem ↓] Go.wp_at_zero Go.wp_at_succ

theorem any_upto {α : Type} {p : α → Bool} {l : List α} (h : ∀ (t : Nat) (y : α), l[t]? = some y → t < l.length → p y = false) : l.any p = false := by
  rw [List.any_eq_false]
  intro y hy
  obtain ⟨i, hi, rfl⟩ := List.getElem_of_mem hy
  simpa using h i _ (List.getElem?_eq_getElem hi) hi
theorem any_hit {α : Type} {p : α → Bool} {l : List α} {t : Nat} {y : α} (h : l[t]? = some y) (hp : p y = true) : l.any p = true := by
  rw [List.any_eq_true]
  exact ⟨y, List.mem_of_getElem? h, hp⟩
def tripV (r : ByteArray × Int × Bool) : Value := .tuple #[.string r.1, .int .i64 r.2.1, .bool r.2.2]
set_option maxHeartbeats 4000000 in
set_option maxRecDepth 100000 in
theorem mGet_any {w : World} {g : Nat} {how : Int} {hl : List UInt8} {S : TS} {F H : List Nat} (ht : Tab w g how hl S F H) (hok : TOk how S) (key : ByteArray) (seq : Int) :
    Calls Try.prog 10 #[.pointer (some ⟨g, 0, none⟩), .string key, .int .u64 seq] w fun e w' => e = .returned (tripV (getS how S key seq)) ∧ Below w.heap.size w w' := by
  have HT := Lib.hid ht
  obtain ⟨hb, hA, hc, tv, hu, hs, hk, hval, N, hp⟩ := ht.parts
  obtain ⟨P, Q, rfl, hPe, hQe, hP, hQ, -, -⟩ := split_nodes hp.nl hok.sl (fromK key seq)
  have hnf := node_first hok.sl (fun e he => by have := hok.k e he; omega) key seq
  rw [← hQe] at hnf
  have hlt := hp.tbl.blk.lt
  have hA' := fun w' (hb' : Below w.heap.size w w') => mAhead_any w' g hb how (.slice hA hl.length hc) hu hs hk hval tv _ _ _ P Q (fromK key seq) (hp.below hb').tbl hP hQ
  unfold fromK at hA'
  dsimp only at hA'
  have hI : NodesI w ⟨0, 0, 0, ⟨⟨⟨#[]⟩, 0, 0⟩, ⟨#[]⟩⟩⟩ Q 0 P := NodesI.start hp.tbl.nodes
  obtain ⟨ab, ao, hh, hl1, hl2, hl3, hl4, -⟩ := lastI (i := 0) g 2 hb 12 hI (by omega) (hp.tbl.blk.cell 6) ((hp.tbl.row.cell 0).trans (rowN_at _ 12 0 (by omega))) (hp.tbl.row.frozen 0)
  have hx1 := World.block_lt_of_cell? _ _ hl4
  have hx2 := World.block_lt_of_cell? _ _ hl2
  rw [nxtB_first (fun n hn => hp.tbl.nodes.h1 n (List.mem_append_right _ hn))] at hl4
  generalize lastX hb 0 P = xl at *
  obtain ⟨A, c, rfl, hc1, hc2⟩ := hp.own.slice_
  have htn : S.t.length ≤ 1000000 := by have h1 := hok.n; have : S.n = S.l.length + S.t.length := rfl; omega
  have HA := Lib.hid hA'
  have HL1 := Lib.hid hl1
  have HNF := Lib.hid hnf
  have HP := Lib.hid hp
  clear hA' hl1 hI hnf hp ht hP hQ hPe hQe hok
  go_enter Try.func10, Try.ntmps10
  go_wp2_with fail
  refine (HA.out _ (Below.refl _ _)).mono ?_
  rintro e w1 ⟨ob, rfl, hob, hb1, hk1⟩
  have HB1 := Lib.hid hb1
  have HO1 := Lib.hid hk1
  have co : w1.cell? ⟨ob, 0, none⟩ = some (.pointer (some ⟨ab, ao, none⟩)) := by rw [hk1.cell 0, lastRow_get _ _ _ _ (by omega), if_pos (by omega), HL1.out]
  have d2 := (HB1.out.cell (p := ⟨ab, ao + 4, none⟩) hx2).trans hl2
  have d4 := (HB1.out.cell (p := ⟨xl, 0, none⟩) hx1).trans hl4
  clear hb1 hk1 HA hl2 hl4 HL1
  go_upto_region 2 with fail
  go_cut [9, 46] (fun s9 s46 wx => Hid (Below w.heap.size w wx) ∧ ∃ (b : Bool) (nd : Option Nd), s9 = ptrV (nd.map (·.nb)) ∧ s46 = .bool b ∧ Hid (nodeS S.l key seq = if b then none else nd.map (·.e)) ∧ Hid (∀ n, nd = some n → n ∈ Q))
  case first =>
    rcases Q with _ | ⟨q1, Q1⟩
    · simp only [List.head?_nil, Option.map_none, ptrV] at d4 ⊢
      go_wp2_with fail
      go_meet
      exact ⟨HB1.out, false, none, rfl, rfl, HNF.out, fun n hn => by cases hn⟩
    · simp only [List.head?_cons, Option.map_some, ptrV] at d4 ⊢
      have hqk : Blk w q1.nb 66 (nodeC q1) := (Nodes.tail HP.out.tbl.nodes).1.1
      have hql := hqk.lt
      have e0 := (HB1.out.cell (p := ⟨q1.nb, 0, none⟩) hql).trans (hqk.cell 0)
      have e1 := (HB1.out.cell (p := ⟨q1.nb, 1, none⟩) hql).trans (hqk.cell 1)
      simp only [nodeC, List.getElem?_toArray, List.getElem?_cons_zero, List.getElem?_cons_succ] at e0 e1
      have hnf := HNF.out
      simp only [List.map_cons] at hnf
      have hsee : sees key seq q1.e = decide (q1.e.k.u = key ∧ q1.e.k.s ≤ seq) := rfl
      rw [hsee] at hnf
      have heq := eqB q1.e.k.u key
      clear hqk hsee HNF
      by_cases g1 : q1.e.k.u = key
      · have hb1 : (q1.e.k.u.toList == key.toList) = true := heq.2 g1
        by_cases g2 : q1.e.k.s ≤ seq
        · rw [decide_eq_true ⟨g1, g2⟩] at hnf
          have hd : decide (seq < q1.e.k.s) = false := by simp; omega
          have HNF := Lib.hid hnf
          clear hnf heq g1 g2
          go_wp2_with fail
          go_meet
          exact ⟨HB1.out, false, some q1, rfl, rfl, HNF.out, fun n hn => by injection hn with hn; rw [← hn]; exact List.mem_cons_self ..⟩
        · rw [decide_eq_false (fun h => g2 h.2)] at hnf
          have hd : decide (seq < q1.e.k.s) = true := by simp; omega
          have HNF := Lib.hid hnf
          clear hnf heq g1 g2
          go_wp2_with fail
          go_meet
          exact ⟨HB1.out, true, some q1, rfl, rfl, HNF.out, fun n hn => by injection hn with hn; rw [← hn]; exact List.mem_cons_self ..⟩
      · have hb1 : (q1.e.k.u.toList == key.toList) = false := by
          cases hx : (q1.e.k.u.toList == key.toList) with
          | false => rfl
          | true => exact absurd (heq.1 hx) g1
        rw [decide_eq_false (fun h => g1 h.1)] at hnf
        have HNF := Lib.hid hnf
        clear hnf heq g1
        go_wp2_with fail
        go_meet
        exact ⟨HB1.out, true, some q1, rfl, rfl, HNF.out, fun n hn => by injection hn with hn; rw [← hn]; exact List.mem_cons_self ..⟩
  case rest =>
    obtain ⟨HBC, b, nd, rfl, rfl, HND, HNQ⟩ := hcut
    clear HB1 HO1 co d2 d4 hx1 hx2 HNF hl3
    have hgt : wc.cell? ⟨g, 8, none⟩ = some (.slice A S.t.length c) := (HBC.out.cell (p := ⟨g, 8, none⟩) hlt).trans (HP.out.tbl.blk.cell 8)
    rcases b with _ | _
    · rcases nd with _ | n
      · simp only [Option.map_none, ptrV] at *
        have HNE : Hid (nodeS S.l key seq = none) := HND.out
        clear HND HNQ
        go_wp2_with fail
        go_loopw [52] (fun s52 wr => ∃ k : Nat, k ≤ S.t.length ∧ s52 = .int .i64 k ∧ Hid (Below w.heap.size w wr) ∧ Hid (∀ (t : Nat) (y : Tb), S.t[t]? = some y → t < k → overT how key seq none y = false)) (fun s52 _ => S.t.length - (intOf s52).toNat)
        case atStart => exact ⟨0, Nat.zero_le _, rfl, HBC.out, fun t y _ ht => absurd ht (Nat.not_lt_zero _)⟩
        case round =>
          clear hgt HBC
          obtain ⟨k, hk, rfl, HB, HN⟩ := hrel
          by_cases hkt : k < S.t.length
          · obtain ⟨tb, tof, hAe, htb, t0, t1, t2⟩ := tb_at HP.out.own.rd' hkt
            have hY : S.t[k]? = some S.t[k] := List.getElem?_eq_getElem hkt
            generalize S.t[k] = y at *
            have HY := Lib.hid hY
            clear hY
            obtain ⟨yb, ye, ys⟩ := y
            dsimp only at t0 t1 t2
            have u0 := (HB.out.cell (p := ⟨tb, tof + k * 3, none⟩) htb).trans t0
            have u1 := (HB.out.cell (p := ⟨tb, tof + k * 3 + 1, none⟩) htb).trans t1
            have u2 := (HB.out.cell (p := ⟨tb, tof + k * 3 + 2, none⟩) htb).trans t2
            subst hAe
            have hki : (0 : Int) ≤ (k : Int) ∧ (k : Int) < (S.t.length : Int) := by omega
            have hbx : Below w.heap.size w (wr.alloc (.cells #[.string yb, .string ye, .int .u64 ys] 71)) := HB.out.alloc HB.out.size _
            have x0 : (wr.alloc (.cells #[.string yb, .string ye, .int .u64 ys] 71)).cell? ⟨wr.heap.size, 0, none⟩ = some (.string yb) := (Blk.new wr _ _).cell 0
            have x1 : (wr.alloc (.cells #[.string yb, .string ye, .int .u64 ys] 71)).cell? ⟨wr.heap.size, 1, none⟩ = some (.string ye) := (Blk.new wr _ _).cell 1
            have x2 : (wr.alloc (.cells #[.string yb, .string ye, .int .u64 ys] 71)).cell? ⟨wr.heap.size, 2, none⟩ = some (.int .u64 ys) := (Blk.new wr _ _).cell 2
            have g0 : (wr.alloc (.cells #[.string yb, .string ye, .int .u64 ys] 71)).cell? ⟨g, 0, none⟩ = some (.int .i64 how) := (hbx.cell (p := ⟨g, 0, none⟩) hlt).trans (HP.out.tbl.blk.cell 0)
            skip
            have HB2 := Lib.hid hbx
            have hov : overT how key seq none ⟨yb, ye, ys⟩ = (decide (cmpH how yb key ≤ 0 ∧ cmpH how key ye < 0) && (decide (ys ≤ seq) && true)) := rfl
            have hq1 := fun w => cCompare_any how yb key w
            have hq2 := fun w => cCompare_any how key ye w
            generalize cmpH how yb key = c1 at *
            generalize cmpH how key ye = c2 at *
            have HC1 := Lib.hid hq1
            have HC2 := Lib.hid hq2
            have HOV := Lib.hid hov
            clear hbx hq1 hq2 hov t0 t1 t2
            go_wp2_with fail
            clear u0 u1 u2
            generalize (wr.alloc (.cells #[.string yb, .string ye, .int .u64 ys] 71)) = wx at *
            generalize wr.heap.size = xb at *
            by_cases h1 : c1 ≤ 0
            · have d1 : decide (c1 ≤ 0) = true := decide_eq_true h1
              by_cases h2 : c2 < 0
              · have d2 : decide (c2 < 0) = true := decide_eq_true h2
                by_cases h3 : ys ≤ seq
                · have d3 : decide (ys ≤ seq) = true := decide_eq_true h3
                  have hov2 : overT how key seq none ⟨yb, ye, ys⟩ = true := by rw [HOV.out, decide_eq_true ⟨h1, h2⟩, d3]; rfl
                  have HO2 := Lib.hid hov2
                  clear hov2 h1 h2 h3
                  go_wp2_with fail
                  go_quiet ((go_at_call 29; first | (with_reducible exact Calls.quiet_of_same (HC1.out _)) | (with_reducible exact Calls.quiet_of_same (HC2.out _))))
                  go_wp2_with fail
                  go_quiet (fail)
                  go_wp2_with fail
                  go_ret3
                  refine ⟨?_, by first | exact below_drewN HB2.out _ | exact below_drewN (below_drewN HB2.out _) _⟩
                  have hg : getS how S key seq = (⟨#[]⟩, 2, true) := by unfold getS getN; rw [HNE.out, any_hit HY.out HO2.out]; rfl
                  rw [hg]; rfl
                · have d3 : decide (ys ≤ seq) = false := decide_eq_false h3
                  have hov2 : overT how key seq none ⟨yb, ye, ys⟩ = false := by rw [HOV.out, decide_eq_true ⟨h1, h2⟩, d3]; rfl
                  have HO2 := Lib.hid hov2
                  clear hov2 h1 h2 h3
                  go_wp2_with fail
                  go_quiet ((go_at_call 29; first | (with_reducible exact Calls.quiet_of_same (HC1.out _)) | (with_reducible exact Calls.quiet_of_same (HC2.out _))))
                  go_wp2_with fail
                  go_quiet (fail)
                  go_wp2_with fail
                  go_roundw
                  case rel => exact ⟨k + 1, by omega, by go_num, below_drewN HB2.out _, fun t y hy ht => by
                    by_cases hte : t = k
                    · subst hte; rw [HY.out] at hy; injection hy with hy; rw [← hy]; exact HO2.out
                    · exact HN.out t y hy (by omega)⟩
                  case measure => simp [intOf]; omega
              · have d2 : decide (c2 < 0) = false := decide_eq_false h2
                have hov2 : overT how key seq none ⟨yb, ye, ys⟩ = false := by rw [HOV.out, decide_eq_false (fun h => h2 h.2)]; rfl
                have HO2 := Lib.hid hov2
                clear hov2 h1 h2
                go_wp2_with fail
                go_quiet ((go_at_call 29; first | (with_reducible exact Calls.quiet_of_same (HC1.out _)) | (with_reducible exact Calls.quiet_of_same (HC2.out _))))
                go_wp2_with fail
                go_quiet (fail)
                go_wp2_with fail
                go_roundw
                case rel => exact ⟨k + 1, by omega, by go_num, below_drewN HB2.out _, fun t y hy ht => by
                  by_cases hte : t = k
                  · subst hte; rw [HY.out] at hy; injection hy with hy; rw [← hy]; exact HO2.out
                  · exact HN.out t y hy (by omega)⟩
                case measure => simp [intOf]; omega
            · have d1 : decide (c1 ≤ 0) = false := decide_eq_false h1
              have hov2 : overT how key seq none ⟨yb, ye, ys⟩ = false := by rw [HOV.out, decide_eq_false (fun h => h1 h.1)]; rfl
              have HO2 := Lib.hid hov2
              clear hov2 h1
              go_wp2_with fail
              go_quiet ((go_at_call 29; first | (with_reducible exact Calls.quiet_of_same (HC1.out _)) | (with_reducible exact Calls.quiet_of_same (HC2.out _))))
              go_wp2_with fail
              go_quiet (fail)
              go_wp2_with fail
              go_roundw
              case rel => exact ⟨k + 1, by omega, by go_num, below_drewN HB2.out _, fun t y hy ht => by
                by_cases hte : t = k
                · subst hte; rw [HY.out] at hy; injection hy with hy; rw [← hy]; exact HO2.out
                · exact HN.out t y hy (by omega)⟩
              case measure => simp [intOf]; omega
          · obtain rfl : k = S.t.length := by omega
            have hany : S.t.any (overT how key seq none) = false := any_upto HN.out
            have hg : getS how S key seq = (⟨#[]⟩, 0, false) := by unfold getS getN; rw [HNE.out, hany]; rfl
            have HG := Lib.hid hg
            clear hany hg
            go_wp2_with fail
            go_ret3
            refine ⟨?_, HB.out⟩
            rw [HG.out]; rfl
      · simp only [Option.map_some, ptrV] at *
        have HNE : Hid (nodeS S.l key seq = some n.e) := HND.out
        have hnk : Blk w n.nb 66 (nodeC n) := by
          obtain ⟨Q1, Q2, hq⟩ := List.append_of_mem (HNQ.out n rfl)
          have h1 := HP.out.tbl.nodes
          rw [hq, ← List.append_assoc] at h1
          exact (Nodes.tail h1).1.1
        have hnl := hnk.lt
        have HNK := Lib.hid hnk
        clear HND HNQ hnk
        go_wp2_with fail
        go_loopw [52] (fun s52 wr => ∃ k : Nat, k ≤ S.t.length ∧ s52 = .int .i64 k ∧ Hid (Below w.heap.size w wr) ∧ Hid (∀ (t : Nat) (y : Tb), S.t[t]? = some y → t < k → overT how key seq (some n.e) y = false)) (fun s52 _ => S.t.length - (intOf s52).toNat)
        case atStart => exact ⟨0, Nat.zero_le _, rfl, HBC.out, fun t y _ ht => absurd ht (Nat.not_lt_zero _)⟩
        case round =>
          clear hgt HBC
          obtain ⟨k, hk, rfl, HB, HN⟩ := hrel
          by_cases hkt : k < S.t.length
          · obtain ⟨tb, tof, hAe, htb, t0, t1, t2⟩ := tb_at HP.out.own.rd' hkt
            have hY : S.t[k]? = some S.t[k] := List.getElem?_eq_getElem hkt
            generalize S.t[k] = y at *
            have HY := Lib.hid hY
            clear hY
            obtain ⟨yb, ye, ys⟩ := y
            dsimp only at t0 t1 t2
            have u0 := (HB.out.cell (p := ⟨tb, tof + k * 3, none⟩) htb).trans t0
            have u1 := (HB.out.cell (p := ⟨tb, tof + k * 3 + 1, none⟩) htb).trans t1
            have u2 := (HB.out.cell (p := ⟨tb, tof + k * 3 + 2, none⟩) htb).trans t2
            subst hAe
            have hki : (0 : Int) ≤ (k : Int) ∧ (k : Int) < (S.t.length : Int) := by omega
            have hbx : Below w.heap.size w (wr.alloc (.cells #[.string yb, .string ye, .int .u64 ys] 71)) := HB.out.alloc HB.out.size _
            have x0 : (wr.alloc (.cells #[.string yb, .string ye, .int .u64 ys] 71)).cell? ⟨wr.heap.size, 0, none⟩ = some (.string yb) := (Blk.new wr _ _).cell 0
            have x1 : (wr.alloc (.cells #[.string yb, .string ye, .int .u64 ys] 71)).cell? ⟨wr.heap.size, 1, none⟩ = some (.string ye) := (Blk.new wr _ _).cell 1
            have x2 : (wr.alloc (.cells #[.string yb, .string ye, .int .u64 ys] 71)).cell? ⟨wr.heap.size, 2, none⟩ = some (.int .u64 ys) := (Blk.new wr _ _).cell 2
            have g0 : (wr.alloc (.cells #[.string yb, .string ye, .int .u64 ys] 71)).cell? ⟨g, 0, none⟩ = some (.int .i64 how) := (hbx.cell (p := ⟨g, 0, none⟩) hlt).trans (HP.out.tbl.blk.cell 0)
            have n1 := (hbx.cell (p := ⟨n.nb, 1, none⟩) hnl).trans (HNK.out.cell 1); simp only [nodeC, List.getElem?_toArray, List.getElem?_cons_zero, List.getElem?_cons_succ] at n1
            have HB2 := Lib.hid hbx
            have hov : overT how key seq (some n.e) ⟨yb, ye, ys⟩ = (decide (cmpH how yb key ≤ 0 ∧ cmpH how key ye < 0) && (decide (ys ≤ seq) && decide (n.e.k.s < ys))) := rfl
            have hq1 := fun w => cCompare_any how yb key w
            have hq2 := fun w => cCompare_any how key ye w
            generalize cmpH how yb key = c1 at *
            generalize cmpH how key ye = c2 at *
            have HC1 := Lib.hid hq1
            have HC2 := Lib.hid hq2
            have HOV := Lib.hid hov
            clear hbx hq1 hq2 hov t0 t1 t2
            go_wp2_with fail
            clear u0 u1 u2
            generalize (wr.alloc (.cells #[.string yb, .string ye, .int .u64 ys] 71)) = wx at *
            generalize wr.heap.size = xb at *
            by_cases h1 : c1 ≤ 0
            · have d1 : decide (c1 ≤ 0) = true := decide_eq_true h1
              by_cases h2 : c2 < 0
              · have d2 : decide (c2 < 0) = true := decide_eq_true h2
                by_cases h3 : ys ≤ seq
                · have d3 : decide (ys ≤ seq) = true := decide_eq_true h3
                  by_cases h4 : n.e.k.s < ys
                  · have d4 : decide (n.e.k.s < ys) = true := decide_eq_true h4
                    have hov2 : overT how key seq (some n.e) ⟨yb, ye, ys⟩ = true := by rw [HOV.out, decide_eq_true ⟨h1, h2⟩, d3, d4]; rfl
                    have HO2 := Lib.hid hov2
                    clear hov2 h1 h2 h3 h4
                    go_wp2_with fail
                    go_quiet ((go_at_call 29; first | (with_reducible exact Calls.quiet_of_same (HC1.out _)) | (with_reducible exact Calls.quiet_of_same (HC2.out _))))
                    go_wp2_with fail
                    go_quiet (fail)
                    go_wp2_with fail
                    go_ret3
                    refine ⟨?_, by first | exact below_drewN HB2.out _ | exact below_drewN (below_drewN HB2.out _) _⟩
                    have hg : getS how S key seq = (⟨#[]⟩, 2, true) := by unfold getS getN; rw [HNE.out, any_hit HY.out HO2.out]; rfl
                    rw [hg]; rfl
                  · have d4 : decide (n.e.k.s < ys) = false := decide_eq_false h4
                    have hov2 : overT how key seq (some n.e) ⟨yb, ye, ys⟩ = false := by rw [HOV.out, decide_eq_true ⟨h1, h2⟩, d3, d4]; rfl
                    have HO2 := Lib.hid hov2
                    clear hov2 h1 h2 h3 h4
                    go_wp2_with fail
                    go_quiet ((go_at_call 29; first | (with_reducible exact Calls.quiet_of_same (HC1.out _)) | (with_reducible exact Calls.quiet_of_same (HC2.out _))))
                    go_wp2_with fail
                    go_quiet (fail)
                    go_wp2_with fail
                    go_roundw
                    case rel => exact ⟨k + 1, by omega, by go_num, below_drewN HB2.out _, fun t y hy ht => by
                      by_cases hte : t = k
                      · subst hte; rw [HY.out] at hy; injection hy with hy; rw [← hy]; exact HO2.out
                      · exact HN.out t y hy (by omega)⟩
                    case measure => simp [intOf]; omega
                · have d3 : decide (ys ≤ seq) = false := decide_eq_false h3
                  have hov2 : overT how key seq (some n.e) ⟨yb, ye, ys⟩ = false := by rw [HOV.out, decide_eq_true ⟨h1, h2⟩, d3]; rfl
                  have HO2 := Lib.hid hov2
                  clear hov2 h1 h2 h3
                  go_wp2_with fail
                  go_quiet ((go_at_call 29; first | (with_reducible exact Calls.quiet_of_same (HC1.out _)) | (with_reducible exact Calls.quiet_of_same (HC2.out _))))
                  go_wp2_with fail
                  go_quiet (fail)
                  go_wp2_with fail
                  go_roundw
                  case rel => exact ⟨k + 1, by omega, by go_num, below_drewN HB2.out _, fun t y hy ht => by
                    by_cases hte : t = k
                    · subst hte; rw [HY.out] at hy; injection hy with hy; rw [← hy]; exact HO2.out
                    · exact HN.out t y hy (by omega)⟩
                  case measure => simp [intOf]; omega
              · have d2 : decide (c2 < 0) = false := decide_eq_false h2
                have hov2 : overT how key seq (some n.e) ⟨yb, ye, ys⟩ = false := by rw [HOV.out, decide_eq_false (fun h => h2 h.2)]; rfl
                have HO2 := Lib.hid hov2
                clear hov2 h1 h2
                go_wp2_with fail
                go_quiet ((go_at_call 29; first | (with_reducible exact Calls.quiet_of_same (HC1.out _)) | (with_reducible exact Calls.quiet_of_same (HC2.out _))))
                go_wp2_with fail
                go_quiet (fail)
                go_wp2_with fail
                go_roundw
                case rel => exact ⟨k + 1, by omega, by go_num, below_drewN HB2.out _, fun t y hy ht => by
                  by_cases hte : t = k
                  · subst hte; rw [HY.out] at hy; injection hy with hy; rw [← hy]; exact HO2.out
                  · exact HN.out t y hy (by omega)⟩
                case measure => simp [intOf]; omega
            · have d1 : decide (c1 ≤ 0) = false := decide_eq_false h1
              have hov2 : overT how key seq (some n.e) ⟨yb, ye, ys⟩ = false := by rw [HOV.out, decide_eq_false (fun h => h1 h.1)]; rfl
              have HO2 := Lib.hid hov2
              clear hov2 h1
              go_wp2_with fail
              go_quiet ((go_at_call 29; first | (with_reducible exact Calls.quiet_of_same (HC1.out _)) | (with_reducible exact Calls.quiet_of_same (HC2.out _))))
              go_wp2_with fail
              go_quiet (fail)
              go_wp2_with fail
              go_roundw
              case rel => exact ⟨k + 1, by omega, by go_num, below_drewN HB2.out _, fun t y hy ht => by
                by_cases hte : t = k
                · subst hte; rw [HY.out] at hy; injection hy with hy; rw [← hy]; exact HO2.out
                · exact HN.out t y hy (by omega)⟩
              case measure => simp [intOf]; omega
          · obtain rfl : k = S.t.length := by omega
            have hany : S.t.any (overT how key seq (some n.e)) = false := any_upto HN.out
            have hg : getS how S key seq = (n.e.v, n.e.k.k, true) := by unfold getS getN; rw [HNE.out, hany]; rfl
            have HG := Lib.hid hg
            clear hany hg
            have n3 := (HB.out.cell (p := ⟨n.nb, 3, none⟩) hnl).trans (HNK.out.cell 3)
            have n2 := (HB.out.cell (p := ⟨n.nb, 2, none⟩) hnl).trans (HNK.out.cell 2)
            simp only [nodeC, List.getElem?_toArray, List.getElem?_cons_zero, List.getElem?_cons_succ] at n2 n3
            go_wp2_with fail
            go_quiet (fail)
            go_wp2_with fail
            go_ret3
            refine ⟨?_, below_drewN HB.out _⟩
            rw [HG.out]; rfl
    ·
      have HNE : Hid (nodeS S.l key seq = none) := HND.out
      clear HND HNQ
      go_wp2_with fail
      go_loopw [52] (fun s52 wr => ∃ k : Nat, k ≤ S.t.length ∧ s52 = .int .i64 k ∧ Hid (Below w.heap.size w wr) ∧ Hid (∀ (t : Nat) (y : Tb), S.t[t]? = some y → t < k → overT how key seq none y = false)) (fun s52 _ => S.t.length - (intOf s52).toNat)
      case atStart => exact ⟨0, Nat.zero_le _, rfl, HBC.out, fun t y _ ht => absurd ht (Nat.not_lt_zero _)⟩
      case round =>
        clear hgt HBC
        obtain ⟨k, hk, rfl, HB, HN⟩ := hrel
        by_cases hkt : k < S.t.length
        · obtain ⟨tb, tof, hAe, htb, t0, t1, t2⟩ := tb_at HP.out.own.rd' hkt
          have hY : S.t[k]? = some S.t[k] := List.getElem?_eq_getElem hkt
          generalize S.t[k] = y at *
          have HY := Lib.hid hY
          clear hY
          obtain ⟨yb, ye, ys⟩ := y
          dsimp only at t0 t1 t2
          have u0 := (HB.out.cell (p := ⟨tb, tof + k * 3, none⟩) htb).trans t0
          have u1 := (HB.out.cell (p := ⟨tb, tof + k * 3 + 1, none⟩) htb).trans t1
          have u2 := (HB.out.cell (p := ⟨tb, tof + k * 3 + 2, none⟩) htb).trans t2
          subst hAe
          have hki : (0 : Int) ≤ (k : Int) ∧ (k : Int) < (S.t.length : Int) := by omega
          have hbx : Below w.heap.size w (wr.alloc (.cells #[.string yb, .string ye, .int .u64 ys] 71)) := HB.out.alloc HB.out.size _
          have x0 : (wr.alloc (.cells #[.string yb, .string ye, .int .u64 ys] 71)).cell? ⟨wr.heap.size, 0, none⟩ = some (.string yb) := (Blk.new wr _ _).cell 0
          have x1 : (wr.alloc (.cells #[.string yb, .string ye, .int .u64 ys] 71)).cell? ⟨wr.heap.size, 1, none⟩ = some (.string ye) := (Blk.new wr _ _).cell 1
          have x2 : (wr.alloc (.cells #[.string yb, .string ye, .int .u64 ys] 71)).cell? ⟨wr.heap.size, 2, none⟩ = some (.int .u64 ys) := (Blk.new wr _ _).cell 2
          have g0 : (wr.alloc (.cells #[.string yb, .string ye, .int .u64 ys] 71)).cell? ⟨g, 0, none⟩ = some (.int .i64 how) := (hbx.cell (p := ⟨g, 0, none⟩) hlt).trans (HP.out.tbl.blk.cell 0)
          skip
          have HB2 := Lib.hid hbx
          have hov : overT how key seq none ⟨yb, ye, ys⟩ = (decide (cmpH how yb key ≤ 0 ∧ cmpH how key ye < 0) && (decide (ys ≤ seq) && true)) := rfl
          have hq1 := fun w => cCompare_any how yb key w
          have hq2 := fun w => cCompare_any how key ye w
          generalize cmpH how yb key = c1 at *
          generalize cmpH how key ye = c2 at *
          have HC1 := Lib.hid hq1
          have HC2 := Lib.hid hq2
          have HOV := Lib.hid hov
          clear hbx hq1 hq2 hov t0 t1 t2
          go_wp2_with fail
          clear u0 u1 u2
          generalize (wr.alloc (.cells #[.string yb, .string ye, .int .u64 ys] 71)) = wx at *
          generalize wr.heap.size = xb at *
          by_cases h1 : c1 ≤ 0
          · have d1 : decide (c1 ≤ 0) = true := decide_eq_true h1
            by_cases h2 : c2 < 0
            · have d2 : decide (c2 < 0) = true := decide_eq_true h2
              by_cases h3 : ys ≤ seq
              · have d3 : decide (ys ≤ seq) = true := decide_eq_true h3
                have hov2 : overT how key seq none ⟨yb, ye, ys⟩ = true := by rw [HOV.out, decide_eq_true ⟨h1, h2⟩, d3]; rfl
                have HO2 := Lib.hid hov2
                clear hov2 h1 h2 h3
                go_wp2_with fail
                go_quiet ((go_at_call 29; first | (with_reducible exact Calls.quiet_of_same (HC1.out _)) | (with_reducible exact Calls.quiet_of_same (HC2.out _))))
                go_wp2_with fail
                go_quiet (fail)
                go_wp2_with fail
                go_ret3
                refine ⟨?_, by first | exact below_drewN HB2.out _ | exact below_drewN (below_drewN HB2.out _) _⟩
                have hg : getS how S key seq = (⟨#[]⟩, 2, true) := by unfold getS getN; rw [HNE.out, any_hit HY.out HO2.out]; rfl
                rw [hg]; rfl
              · have d3 : decide (ys ≤ seq) = false := decide_eq_false h3
                have hov2 : overT how key seq none ⟨yb, ye, ys⟩ = false := by rw [HOV.out, decide_eq_true ⟨h1, h2⟩, d3]; rfl
                have HO2 := Lib.hid hov2
                clear hov2 h1 h2 h3
                go_wp2_with fail
                go_quiet ((go_at_call 29; first | (with_reducible exact Calls.quiet_of_same (HC1.out _)) | (with_reducible exact Calls.quiet_of_same (HC2.out _))))
                go_wp2_with fail
                go_quiet (fail)
                go_wp2_with fail
                go_roundw
                case rel => exact ⟨k + 1, by omega, by go_num, below_drewN HB2.out _, fun t y hy ht => by
                  by_cases hte : t = k
                  · subst hte; rw [HY.out] at hy; injection hy with hy; rw [← hy]; exact HO2.out
                  · exact HN.out t y hy (by omega)⟩
                case measure => simp [intOf]; omega
            · have d2 : decide (c2 < 0) = false := decide_eq_false h2
              have hov2 : overT how key seq none ⟨yb, ye, ys⟩ = false := by rw [HOV.out, decide_eq_false (fun h => h2 h.2)]; rfl
              have HO2 := Lib.hid hov2
              clear hov2 h1 h2
              go_wp2_with fail
              go_quiet ((go_at_call 29; first | (with_reducible exact Calls.quiet_of_same (HC1.out _)) | (with_reducible exact Calls.quiet_of_same (HC2.out _))))
              go_wp2_with fail
              go_quiet (fail)
              go_wp2_with fail
              go_roundw
              case rel => exact ⟨k + 1, by omega, by go_num, below_drewN HB2.out _, fun t y hy ht => by
                by_cases hte : t = k
                · subst hte; rw [HY.out] at hy; injection hy with hy; rw [← hy]; exact HO2.out
                · exact HN.out t y hy (by omega)⟩
              case measure => simp [intOf]; omega
          · have d1 : decide (c1 ≤ 0) = false := decide_eq_false h1
            have hov2 : overT how key seq none ⟨yb, ye, ys⟩ = false := by rw [HOV.out, decide_eq_false (fun h => h1 h.1)]; rfl
            have HO2 := Lib.hid hov2
            clear hov2 h1
            go_wp2_with fail
            go_quiet ((go_at_call 29; first | (with_reducible exact Calls.quiet_of_same (HC1.out _)) | (with_reducible exact Calls.quiet_of_same (HC2.out _))))
            go_wp2_with fail
            go_quiet (fail)
            go_wp2_with fail
            go_roundw
            case rel => exact ⟨k + 1, by omega, by go_num, below_drewN HB2.out _, fun t y hy ht => by
              by_cases hte : t = k
              · subst hte; rw [HY.out] at hy; injection hy with hy; rw [← hy]; exact HO2.out
              · exact HN.out t y hy (by omega)⟩
            case measure => simp [intOf]; omega
        · obtain rfl : k = S.t.length := by omega
          have hany : S.t.any (overT how key seq none) = false := any_upto HN.out
          have hg : getS how S key seq = (⟨#[]⟩, 0, false) := by unfold getS getN; rw [HNE.out, hany]; rfl
          have HG := Lib.hid hg
          clear hany hg
          go_wp2_with fail
          go_ret3
          refine ⟨?_, HB.out⟩
          rw [HG.out]; rfl
end Go.Proofs.Ytodnojpolkdlmaa
