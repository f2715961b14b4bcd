/-
  Tombstones in order; records that can be.
-/
import Derived.Test.YtodnojpolkdlmaaSkA
import Derived.StillTailTactics
import Derived.Deep.QuietTactic
import Derived.BigQuiet
namespace Go.Proofs.Ytodnojpolkdlmaa
set_option linter.unusedSimpArgs false
set_option linter.unusedVariables false
open Go.RowKit Go.IntWalk

structure Tb where
  b : ByteArray
  e : ByteArray
  s : Int
def tbC (t : Tb) : List Value := [.string t.b, .string t.e, .int .u64 t.s]
def ordT (how : Int) (x y : Tb) : Int := or3 (cmpH how x.b y.b) (cmpH how x.e y.e) (cmpI y.s x.s)
set_option maxHeartbeats 1000000 in
set_option maxRecDepth 100000 in
theorem mOrder_any (g : Nat) (how : Int) (x y : Tb) (w : World) (h0 : w.cell? ⟨g, 0, none⟩ = some (.int .i64 how)) (hg : g < w.heap.size) :
    Calls Try.prog 25 #[.pointer (some ⟨g, 0, none⟩), .agg #[.string x.b, .string x.e, .int .u64 x.s], .agg #[.string y.b, .string y.e, .int .u64 y.s]] w fun e w' => e = .returned (.int .i64 (ordT how x y)) ∧ Below w.heap.size w w' := by
  obtain ⟨xb, xe, xs⟩ := x
  obtain ⟨yb, ye, ys⟩ := y
  dsimp only
  obtain ⟨w1, e1, hb, hz, h1, h2⟩ := two_boxes w #[.string xb, .string xe, .int .u64 xs] #[.string yb, .string ye, .int .u64 ys] 71 71
  have g0 := (hb.cell (p := ⟨g, 0, none⟩) hg).trans h0
  have E1 := Lib.hid e1; clear e1
  have H1 := Lib.hid h1; clear h1
  have H2 := Lib.hid h2; clear h2
  have HZ := Lib.hid hz; clear hz h0
  go_enter Try.func25, Try.ntmps25
  go_wp2_with fail
  rw [E1.out]
  have c0 : w1.cell? ⟨w.heap.size, 0, none⟩ = some (.string xb) := H1.out 0
  have c1 : w1.cell? ⟨w.heap.size, 1, none⟩ = some (.string xe) := H1.out 1
  have c2 : w1.cell? ⟨w.heap.size, 2, none⟩ = some (.int .u64 xs) := H1.out 2
  have d0 : w1.cell? ⟨w.heap.size + 1, 0, none⟩ = some (.string yb) := H2.out 0
  have d1 : w1.cell? ⟨w.heap.size + 1, 1, none⟩ = some (.string ye) := H2.out 1
  have d2 : w1.cell? ⟨w.heap.size + 1, 2, none⟩ = some (.int .u64 ys) := H2.out 2
  refine wp_region_still_tail 23 (by kernel_rfl) (by kernel_rfl) ?_
  change wpStill _ _ w1.drew (fun a' => wpList _ _ _ _ a' w1.drew) _ _
  simp only [List.take_succ_cons, List.take_zero, List.drop_succ_cons, List.drop_zero]
  repeat (first | (with_reducible still_call (cCompare_any _ _ _ _)) | (with_reducible still_call (cmpU_any _ _ _)) | still_step)
  refine wpStill_nil ?_
  go_wp2_with fail
  refine (or_any w1.heap.size (cmpH how xb yb) (cmpH how xe ye) (cmpI ys xs) _ ?_ ?_ ?_).mono ?_
  · go_simp
  · go_simp
  · go_simp
  rintro e w' ⟨rfl, rfl⟩
  go_wp2_with fail
  go_ret
  exact ⟨rfl, (hb.alloc hb.size _).drew⟩
/-- a record -/
structure Rc where
  f : Int
  k : Int
  key : ByteArray
  v : ByteArray
def mostR (k : Int) (v : Nat) : Nat := if k = 0 then v else if k = 1 then 16384 else 1024
def chkR (r : Rc) : Int := if r.k < 0 ∨ 2 < r.k then 1 else if 1024 < r.key.size ∨ mostR r.k r.v.size < r.v.size then 2 else 0
set_option maxHeartbeats 1000000 in
theorem bChk_any (r : Rc) (w : World) : Calls Try.prog 23 #[.agg #[.int .u32 r.f, .int .i64 r.k, .string r.key, .string r.v]] w fun e w' => e = .returned (.int .i64 (chkR r)) ∧ Below w.heap.size w w' := by
  obtain ⟨f, k, key, v⟩ := r
  dsimp only
  have hC : chkR ⟨f, k, key, v⟩ = if k < 0 ∨ 2 < k then 1 else if 1024 < key.size ∨ mostR k v.size < v.size then 2 else 0 := rfl
  generalize chkR ⟨f, k, key, v⟩ = c at *
  by_cases h0 : k = 0
  · subst h0
    have hm : mostR 0 v.size = v.size := rfl
    rw [if_neg (by omega), hm] at hC
    by_cases hk : 1024 < key.size
    · rw [if_pos (.inl hk)] at hC
      have HC := Lib.hid hC
      clear hC hm
      have hd : decide ((1024 : Int) < (key.size : Int)) = true := by simp; omega
      go_enter Try.func23, Try.ntmps23
      go_wp2_with fail
      go_ret
      exact ⟨ret_int (by rw [HC.out]), (Below.refl _ _).alloc (Nat.le_refl _) _⟩
    · rw [if_neg (by omega)] at hC
      have HC := Lib.hid hC
      clear hC hm
      have hd : decide ((1024 : Int) < (key.size : Int)) = false := by simp; omega
      go_enter Try.func23, Try.ntmps23
      go_wp2_with fail
      go_ret
      exact ⟨ret_int (by rw [HC.out]), (Below.refl _ _).alloc (Nat.le_refl _) _⟩
  by_cases h1 : k = 1
  · subst h1
    have hm : mostR 1 v.size = 16384 := rfl
    rw [if_neg (by omega), hm] at hC
    by_cases hk : 1024 < key.size
    · rw [if_pos (.inl hk)] at hC
      have HC := Lib.hid hC
      clear hC hm h0
      have hd : decide ((1024 : Int) < (key.size : Int)) = true := by simp; omega
      go_enter Try.func23, Try.ntmps23
      go_wp2_with fail
      go_ret
      exact ⟨ret_int (by rw [HC.out]), (Below.refl _ _).alloc (Nat.le_refl _) _⟩
    · have hd : decide ((1024 : Int) < (key.size : Int)) = false := by simp; omega
      by_cases hv : 16384 < v.size
      · rw [if_pos (.inr hv)] at hC
        have HC := Lib.hid hC
        clear hC hm h0
        have hd2 : decide ((16384 : Int) < (v.size : Int)) = true := by simp; omega
        go_enter Try.func23, Try.ntmps23
        go_wp2_with fail
        go_ret
        exact ⟨ret_int (by rw [HC.out]), (Below.refl _ _).alloc (Nat.le_refl _) _⟩
      · rw [if_neg (by omega)] at hC
        have HC := Lib.hid hC
        clear hC hm h0
        have hd2 : decide ((16384 : Int) < (v.size : Int)) = false := by simp; omega
        go_enter Try.func23, Try.ntmps23
        go_wp2_with fail
        go_ret
        exact ⟨ret_int (by rw [HC.out]), (Below.refl _ _).alloc (Nat.le_refl _) _⟩
  by_cases h2 : k = 2
  · subst h2
    have hm : mostR 2 v.size = 1024 := rfl
    rw [if_neg (by omega), hm] at hC
    by_cases hk : 1024 < key.size
    · rw [if_pos (.inl hk)] at hC
      have HC := Lib.hid hC
      clear hC hm h0 h1
      have hd : decide ((1024 : Int) < (key.size : Int)) = true := by simp; omega
      go_enter Try.func23, Try.ntmps23
      go_wp2_with fail
      go_ret
      exact ⟨ret_int (by rw [HC.out]), (Below.refl _ _).alloc (Nat.le_refl _) _⟩
    · have hd : decide ((1024 : Int) < (key.size : Int)) = false := by simp; omega
      by_cases hv : 1024 < v.size
      · rw [if_pos (.inr hv)] at hC
        have HC := Lib.hid hC
        clear hC hm h0 h1
        have hd2 : decide ((1024 : Int) < (v.size : Int)) = true := by simp; omega
        go_enter Try.func23, Try.ntmps23
        go_wp2_with fail
        go_ret
        exact ⟨ret_int (by rw [HC.out]), (Below.refl _ _).alloc (Nat.le_refl _) _⟩
      · rw [if_neg (by omega)] at hC
        have HC := Lib.hid hC
        clear hC hm h0 h1
        have hd2 : decide ((1024 : Int) < (v.size : Int)) = false := by simp; omega
        go_enter Try.func23, Try.ntmps23
        go_wp2_with fail
        go_ret
        exact ⟨ret_int (by rw [HC.out]), (Below.refl _ _).alloc (Nat.le_refl _) _⟩
  · rw [if_pos (by omega)] at hC
    have HC := Lib.hid hC
    have e0 : (k == 0) = false := by simpa using h0
    have e1 : (k == 1) = false := by simpa using h1
    have e2 : (k == 2) = false := by simpa using h2
    clear hC h0 h1 h2
    go_enter Try.func23, Try.ntmps23
    go_wp2_with fail
    go_ret
    exact ⟨ret_int (by rw [HC.out]), (Below.refl _ _).alloc (Nat.le_refl _) _⟩
end Go.Proofs.Ytodnojpolkdlmaa
