/-
  The walks of the comparisons and the orders of keys, of the program's and of the document's: each comes to the plain function of CodA.
-/
import Derived.Test.YtodnojpolkdlmaaChecked
import Derived.Test.YtodnojpolkdlmaaCodA
import Derived.WalkKit
import Derived.WalkSpells
import Derived.WalkLawsBesides
import Derived.StillTailTactics
import Derived.Lib.Hide
import Derived.Deep.Light
import Derived.Deep.QuietTactic
import Derived.BigQuiet
namespace Go.Proofs.Ytodnojpolkdlmaa
open Go.RowKit

theorem ret_int {k : IntKind} {a b : Int} (h : a = b) : Ending.returned (.int k a) = .returned (.int k b) := by rw [h]
theorem ret_str {a b : ByteArray} (h : a = b) : Ending.returned (.string a) = .returned (.string b) := by rw [h]
theorem ret_bool {a b : Bool} (h : a = b) : Ending.returned (.bool a) = .returned (.bool b) := by rw [h]
theorem lessB (a b : ByteArray) : Op.bytesLess a.toList b.toList = true ↔ Lib.compareBytes a.data.toList b.data.toList < 0 := by
  rw [Lib.toList_data, Lib.toList_data, cb_less]
theorem eqB (a b : ByteArray) : (a.toList == b.toList) = true ↔ a = b := by
  rw [Lib.toList_data, Lib.toList_data, beq_iff_eq]
  exact ⟨data_inj, fun h => by rw [h]⟩

theorem bCompare_any (a b : ByteArray) (w : World) :
    Calls Try.prog 61 #[.string a, .string b] w fun e w' => e = .returned (.int .i64 (Lib.compareBytes a.data.toList b.data.toList)) ∧ w' = w := by
  go_enter Try.func61, Try.ntmps61
  go_wp2
  rw [run_callFunc_extern Try.func65 (by kernel_rfl) (by kernel_rfl) (by kernel_rfl) (e := Extern.BytealgCompare.compare) (by kernel_rfl), Lib.run_compareString]
  simp only [Result.andThen]
  rw [Oper.upon_value]
  go_wp2
  go_ret
  exact ⟨rfl, rfl⟩
theorem sCompare_any (a b : ByteArray) (w : World) :
    Calls Try.prog 51 #[.string a, .string b] w fun e w' => e = .returned (.int .i64 (Lib.compareBytes a.data.toList b.data.toList)) ∧ w' = w := by
  go_enter Try.func51, Try.ntmps51
  go_wp2_with (go_at_call 61; refine (bCompare_any _ _ _).mono ?_; rintro e w' ⟨rfl, rfl⟩)
  go_ret
  exact ⟨rfl, rfl⟩
theorem cCompare_any (how : Int) (a b : ByteArray) (w : World) :
    Calls Try.prog 29 #[.int .i64 how, .string a, .string b] w fun e w' => e = .returned (.int .i64 (cmpH how a b)) ∧ w' = w := by
  by_cases h : how = 1
  · subst h
    go_enter Try.func29, Try.ntmps29
    go_wp2_with (go_at_call 51; refine (sCompare_any _ _ _).mono ?_; rintro e w' ⟨rfl, rfl⟩)
    go_ret
    exact ⟨ret_int (by unfold cmpH; rw [if_pos rfl]), rfl⟩
  · have hb : (how == 1) = false := by simpa using h
    go_enter Try.func29, Try.ntmps29
    go_wp2_with (go_at_call 51; refine (sCompare_any _ _ _).mono ?_; rintro e w' ⟨rfl, rfl⟩)
    go_ret
    exact ⟨ret_int (by unfold cmpH; rw [if_neg h]), rfl⟩
def rcmpB (e l h : Bool) : Int := if e then 0 else if h then (if l then 1 else -1) else (if l then -1 else 1)
theorem rcmp (how : Int) (a b : ByteArray) : rcmpB (a.toList == b.toList) (Op.bytesLess a.toList b.toList) (how == 1) = cmpH how a b := by
  by_cases h : a = b
  · rw [(eqB a b).2 h, h, cmpH_refl]; rfl
  · have he : (a.toList == b.toList) = false := by
      cases hx : (a.toList == b.toList) with
      | false => rfl
      | true => exact absurd ((eqB a b).1 hx) h
    have h0 : Lib.compareBytes a.data.toList b.data.toList ≠ 0 := fun e => h (data_inj ((cb_eq _ _).1 e))
    have h3 := cb_three a.data.toList b.data.toList
    have hl := lessB a b
    rw [he]
    unfold cmpH rcmpB
    rw [cb_anti a.data.toList b.data.toList]
    cases hL : Op.bytesLess a.toList b.toList with
    | true =>
      have := hl.1 hL
      by_cases hh : how = 1
      · simp [hh]; omega
      · simp [hh]; omega
    | false =>
      have : ¬ Lib.compareBytes a.data.toList b.data.toList < 0 := fun e => by have := hl.2 e; rw [hL] at this; cases this
      by_cases hh : how = 1
      · simp [hh]; omega
      · simp [hh]; omega
theorem rCompare_any (how : Int) (a b : ByteArray) (w : World) :
    Calls Try.prog 11 #[.int .i64 how, .string a, .string b] w fun e w' => e = .returned (.int .i64 (cmpH how a b)) ∧ w' = w := by
  have hr := rcmp how a b
  have HR := Lib.hid hr; clear hr
  cases hE : (a.toList == b.toList) <;> cases hL : Op.bytesLess a.toList b.toList <;> cases hH : (how == 1)
  all_goals
    go_enter Try.func11, Try.ntmps11
    go_wp2
    go_ret
    exact ⟨ret_int (by rw [← HR.out, hE, hL, hH]; rfl), rfl⟩

/-! ### numbers -/
theorem cmpU_any (x y : Int) (w : World) :
    Calls Try.prog 47 #[.int .u64 x, .int .u64 y] w fun e w' => e = .returned (.int .i64 (cmpI x y)) ∧ w' = w := by
  go_enter Try.func47, Try.ntmps47
  go_wp2
  all_goals go_ret
  all_goals refine ⟨ret_int ?_, rfl⟩
  all_goals unfold cmpI
  · rw [if_pos (by omega)]
  · rw [if_neg (by omega), if_pos (by omega)]
  · rw [if_neg (by omega), if_neg (by omega)]
theorem cmpI_any (x y : Int) (w : World) :
    Calls Try.prog 52 #[.int .i64 x, .int .i64 y] w fun e w' => e = .returned (.int .i64 (cmpI x y)) ∧ w' = w := by
  go_enter Try.func52, Try.ntmps52
  go_wp2
  all_goals go_ret
  all_goals refine ⟨ret_int ?_, rfl⟩
  all_goals unfold cmpI
  · rw [if_pos (by omega)]
  · rw [if_neg (by omega), if_pos (by omega)]
  · rw [if_neg (by omega), if_neg (by omega)]
theorem ne_zero {x : Int} (h : (x != 0) = true) : x ≠ 0 := by simpa using h
theorem eq_zero {x : Int} (h : (x != 0) = false) : x = 0 := by simpa using h
set_option maxHeartbeats 400000 in
theorem or_any (b : Nat) (x y z : Int) (w : World) (h0 : w.cell? ⟨b, 0, none⟩ = some (.int .i64 x)) (h1 : w.cell? ⟨b, 1, none⟩ = some (.int .i64 y)) (h2 : w.cell? ⟨b, 2, none⟩ = some (.int .i64 z)) :
    Calls Try.prog 46 #[.slice (some ⟨b, 0, none⟩) 3 3] w fun e w' => e = .returned (.int .i64 (or3 x y z)) ∧ w' = w := by
  go_enter Try.func46, Try.ntmps46
  go_wp2
  go_loop [8] (fun i => ∃ k : Nat, k ≤ 3 ∧ i = .int .i64 k ∧ (1 ≤ k → x = 0) ∧ (2 ≤ k → y = 0) ∧ (3 ≤ k → z = 0)) (fun i => 3 - (intOf i).toNat)
  case atStart => exact ⟨0, by omega, rfl, by omega, by omega, by omega⟩
  case round =>
    obtain ⟨i, hi, rfl, hx, hy, hz⟩ := hrel
    by_cases e0 : i = 0
    · subst e0
      clear hx hy hz
      go_wp2
      · have hn := ne_zero (by assumption)
        go_ret
        exact ⟨ret_int (by unfold or3; rw [if_pos hn]), rfl⟩
      · have hn := eq_zero (by assumption)
        go_round
        case rel => exact ⟨1, by omega, by go_num, fun _ => hn, by omega, by omega⟩
        case measure => simp [intOf]
    · have hx' := hx (by omega)
      by_cases e1 : i = 1
      · subst e1
        subst hx'
        clear hx hy hz
        go_wp2
        · have hn := ne_zero (by assumption)
          go_ret
          exact ⟨ret_int (by unfold or3; rw [if_neg (by simp), if_pos hn]), rfl⟩
        · have hn := eq_zero (by assumption)
          go_round
          case rel => exact ⟨2, by omega, by go_num, by simp, fun _ => hn, by omega⟩
          case measure => simp [intOf]
      · have hy' := hy (by omega)
        by_cases e2 : i = 2
        · subst e2
          subst hx'
          subst hy'
          clear hx hy hz
          go_wp2
          · have hn := ne_zero (by assumption)
            go_ret
            exact ⟨ret_int (by unfold or3; rw [if_neg (by simp), if_neg (by simp)]), rfl⟩
          · have hn := eq_zero (by assumption)
            go_round
            case rel => exact ⟨3, by omega, by go_num, by simp, by simp, fun _ => hn⟩
            case measure => simp [intOf]
        · have hz' := hz (by omega)
          obtain rfl : i = 3 := by omega
          subst hx'
          subst hy'
          subst hz'
          clear hx hy hz
          go_wp2
          go_ret
          exact ⟨ret_int (by unfold or3; simp), rfl⟩

/-! ### keys -/
theorem two_boxes (w : World) (cs ds : Array Value) (t t' : TypeId) : ∃ w1, (w.alloc (.cells cs t)).alloc (.cells ds t') = w1 ∧ Below w.heap.size w w1 ∧ w1.heap.size = w.heap.size + 2 ∧
    (∀ i, w1.cell? ⟨w.heap.size, i, none⟩ = cs[i]?) ∧ (∀ i, w1.cell? ⟨w.heap.size + 1, i, none⟩ = ds[i]?) := by
  refine ⟨_, rfl, ((Below.refl _ _).alloc (Nat.le_refl _) _).alloc (by simp) _, by simp, ?_, ?_⟩
  · intro i
    have e : ((w.alloc (.cells cs t)).alloc (.cells ds t')).heap[w.heap.size]? = some (.cells cs t) := by
      show ((w.heap.push _).push _)[w.heap.size]? = _
      simp only [Array.getElem?_push, Array.size_push]
      rw [if_neg (by omega), if_pos trivial]
    unfold World.cell?
    rw [e]
    rfl
  · intro i
    have e : ((w.alloc (.cells cs t)).alloc (.cells ds t')).heap[w.heap.size + 1]? = some (.cells ds t') := by
      show ((w.heap.push _).push _)[w.heap.size + 1]? = _
      simp only [Array.getElem?_push, Array.size_push]
      rw [if_pos trivial]
    unfold World.cell?
    rw [e]
    rfl
set_option maxHeartbeats 1000000 in
set_option maxRecDepth 100000 in
theorem cOrder_any (how s k s' k' : Int) (u u' : ByteArray)  (w : World) :
    Calls Try.prog 33 #[.int .i64 how, .agg #[.string u, .int .u64 s, .int .i64 k], .agg #[.string u', .int .u64 s', .int .i64 k']] w fun e w' => e = .returned (.int .i64 (ordK how ⟨u, s, k⟩ ⟨u', s', k'⟩)) ∧ Below w.heap.size w w' := by
  obtain ⟨w1, e1, hb, hz, h1, h2⟩ := two_boxes w #[.string u, .int .u64 s, .int .i64 k] #[.string u', .int .u64 s', .int .i64 k'] 45 45
  have E1 := Lib.hid e1; clear e1
  have H1 := Lib.hid h1; clear h1
  have H2 := Lib.hid h2; clear h2
  have HZ := Lib.hid hz; clear hz
  go_enter Try.func33, Try.ntmps33
  go_wp2_with fail
  rw [E1.out]
  have c0 : w1.cell? ⟨w.heap.size, 0, none⟩ = some (.string u) := H1.out 0
  have c1 : w1.cell? ⟨w.heap.size, 1, none⟩ = some (.int .u64 s) := H1.out 1
  have c2 : w1.cell? ⟨w.heap.size, 2, none⟩ = some (.int .i64 k) := H1.out 2
  have d0 : w1.cell? ⟨w.heap.size + 1, 0, none⟩ = some (.string u') := H2.out 0
  have d1 : w1.cell? ⟨w.heap.size + 1, 1, none⟩ = some (.int .u64 s') := H2.out 1
  have d2 : w1.cell? ⟨w.heap.size + 1, 2, none⟩ = some (.int .i64 k') := H2.out 2
  refine wp_region_still_tail 16 (by kernel_rfl) (by kernel_rfl) ?_
  change wpStill _ _ w1.drew (fun a' => wpList _ _ _ _ a' w1.drew) _ _
  simp only [List.take_succ_cons, List.take_zero, List.drop_succ_cons, List.drop_zero]
  repeat (first | (with_reducible still_call (cCompare_any _ _ _ _)) | (with_reducible still_call (cmpU_any _ _ _)) | (with_reducible still_call (cmpI_any _ _ _)) | still_step)
  refine wpStill_nil ?_
  go_wp2_with fail
  refine (or_any w1.heap.size (cmpH how u u') (cmpI s' s) (cmpI k' k) _ ?_ ?_ ?_).mono ?_
  · go_simp
  · go_simp
  · go_simp
  rintro e w' ⟨rfl, rfl⟩
  go_wp2_with fail
  go_ret
  exact ⟨rfl, (hb.alloc hb.size _).drew⟩
theorem rord (how : Int) (a b : K) : (if cmpH how a.u b.u ≠ 0 then cmpH how a.u b.u else if a.s ≠ b.s then (if b.s < a.s then -1 else 1) else if a.k ≠ b.k then (if b.k < a.k then -1 else 1) else 0) = ordK how a b := by
  unfold ordK or3 cmpI
  repeat' split
  all_goals omega
set_option maxHeartbeats 1000000 in
set_option maxRecDepth 100000 in
theorem rOrder_any (how s k s' k' : Int) (u u' : ByteArray)  (w : World) :
    Calls Try.prog 58 #[.int .i64 how, .agg #[.string u, .int .u64 s, .int .i64 k], .agg #[.string u', .int .u64 s', .int .i64 k']] w fun e w' => e = .returned (.int .i64 (ordK how ⟨u, s, k⟩ ⟨u', s', k'⟩)) ∧ Below w.heap.size w w' := by
  obtain ⟨w1, e1, hb, hz, h1, h2⟩ := two_boxes w #[.string u, .int .u64 s, .int .i64 k] #[.string u', .int .u64 s', .int .i64 k'] 45 45
  have E1 := Lib.hid e1; clear e1
  have H1 := Lib.hid h1; clear h1
  have H2 := Lib.hid h2; clear h2
  have HZ := Lib.hid hz; clear hz
  have hr := rord how ⟨u, s, k⟩ ⟨u', s', k'⟩
  have HR := Lib.hid hr; clear hr
  go_enter Try.func58, Try.ntmps58
  go_wp2_with fail
  rw [E1.out]
  have c0 : w1.cell? ⟨w.heap.size, 0, none⟩ = some (.string u) := H1.out 0
  have c1 : w1.cell? ⟨w.heap.size, 1, none⟩ = some (.int .u64 s) := H1.out 1
  have c2 : w1.cell? ⟨w.heap.size, 2, none⟩ = some (.int .i64 k) := H1.out 2
  have d0 : w1.cell? ⟨w.heap.size + 1, 0, none⟩ = some (.string u') := H2.out 0
  have d1 : w1.cell? ⟨w.heap.size + 1, 1, none⟩ = some (.int .u64 s') := H2.out 1
  have d2 : w1.cell? ⟨w.heap.size + 1, 2, none⟩ = some (.int .i64 k') := H2.out 2
  go_wp2_with (go_at_call 11; refine (rCompare_any _ _ _ _).mono ?_; rintro e w' ⟨rfl, rfl⟩)
  all_goals go_ret
  all_goals refine ⟨ret_int ?_, hb⟩
  all_goals rw [← HR.out]
  all_goals go_light
  all_goals simp_all
end Go.Proofs.Ytodnojpolkdlmaa
