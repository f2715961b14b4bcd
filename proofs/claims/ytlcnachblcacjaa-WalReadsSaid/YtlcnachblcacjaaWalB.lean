/-
  A log's small functions.
-/
import Derived.Test.YtlcnachblcacjaaWalA
import Derived.Test.YtlcnachblcacjaaCodF
import Derived.Test.YtlcnachblcacjaaCodB
import Derived.Deep.QuietTactic
import Derived.BigQuiet
namespace Go.Proofs.Ytlcnachblcacjaa
set_option linter.unusedSimpArgs false
set_option linter.unusedVariables false
open Go.RowKit Go.IntWalk

theorem wZero1_any (x : Int) (w : World) : Calls Try.prog 28 #[.int .u8 x] w fun e w' => e = .returned (.bool (x != 0)) ∧ w' = w := by
  go_enter Try.func28, Try.ntmps28
  go_wp2
  go_ret
  exact ⟨rfl, rfl⟩
def nzL (l : List UInt8) : Nat := l.findIdx (fun x => x != 0)
theorem nzL_le (l : List UInt8) : nzL l ≤ l.length := List.findIdx_le_length
theorem nzL_at {l : List UInt8} (h : nzL l < l.length) : l[nzL l]'h ≠ 0 := by
  have := List.findIdx_getElem (p := fun x => x != 0) (w := h)
  unfold nzL; simpa using this
theorem nzL_before {l : List UInt8} {k : Nat} (hk : k < nzL l) (h : k < l.length) : l[k]'h = 0 := by
  have := List.not_of_lt_findIdx (p := fun x => x != 0) (xs := l) hk
  simpa using this
theorem zeroL_nz (l : List UInt8) : zeroL l = decide (l.length ≤ nzL l) := by
  rw [Bool.eq_iff_iff, decide_eq_true_iff]
  unfold zeroL
  rw [List.all_eq_true]
  constructor
  · intro h
    rcases Nat.lt_or_ge (nzL l) l.length with h1 | h1
    · exact absurd (by simpa using h _ (List.getElem_mem h1)) (nzL_at h1)
    · exact h1
  · intro h x hx
    obtain ⟨i, hi, rfl⟩ := List.getElem_of_mem hx
    simpa using nzL_before (show i < nzL l by omega) hi
theorem byte_ne {x : UInt8} (h : x ≠ 0) : ((x.toNat : Int) != 0) = true := by
  rw [bne_iff_ne]
  intro e
  exact h (UInt8.toNat_inj.1 (by show x.toNat = 0; omega))
set_option maxHeartbeats 1000000 in
theorem wIndex_any (A : Option Addr) (cap : Nat) (l : List UInt8) (B : Nat) (w : World) (hl : l.length ≤ 9223372036854775807) (hbs : Bs w B A l) :
    Calls Try.prog 33 #[.slice A l.length cap, .func (.func 28) #[] #[]] w fun e w' => e = .returned (.int .i64 (if nzL l < l.length then (nzL l : Int) else -1)) ∧ w' = w := by
  have hle := nzL_le l
  have H1 := Lib.hid (fun h => nzL_at (l := l) h)
  have H2 := Lib.hid (fun (k : Nat) (hk : k < nzL l) h => nzL_before (l := l) hk h)
  generalize nzL l = J at *
  obtain ⟨rr, hr⟩ : ∃ rr : Int, (if J < l.length then (J : Int) else -1) = rr := ⟨_, rfl⟩
  rw [hr]
  have HR := Lib.hid hr; clear hr
  go_enter Try.func33, Try.ntmps33
  go_wp2
  go_loop [5, 8] (fun _ i => ∃ k : Nat, k ≤ J ∧ i = .int .i64 k) (fun _ i => l.length - (intOf i).toNat)
  case atStart => exact ⟨0, Nat.zero_le _, rfl⟩
  case round =>
    obtain ⟨k, hk, rfl⟩ := hrel
    by_cases hlt : k < l.length
    · obtain ⟨b, off, x, rfl, hb, hx, hc, HX⟩ := byte_at hbs hlt
      by_cases hJ : k < J
      · have hx0 : x = 0 := by rw [HX.out, H2.out k hJ hlt]; rfl
        subst hx0
        go_wp2_with (refine (wZero1_any _ _).mono ?_; rintro e w1 ⟨rfl, rfl⟩)
        go_round
        case rel => exact ⟨k + 1, by omega, by go_num⟩
        case measure => simp [intOf]; omega
      · obtain rfl : k = J := by omega
        have hne := byte_ne (H1.out hlt)
        rw [← HX.out] at hne
        go_wp2_with (refine (wZero1_any _ _).mono ?_; rw [hne]; rintro e w1 ⟨rfl, rfl⟩)
        go_ret
        exact ⟨ret_int (by rw [← HR.out, if_pos hlt]), rfl⟩
    · go_wp2
      go_ret
      exact ⟨ret_int (by rw [← HR.out, if_neg (by omega)]), rfl⟩
theorem wZero_any (A : Option Addr) (cap : Nat) (l : List UInt8) (B : Nat) (w : World) (hl : l.length ≤ 9223372036854775807) (hbs : Bs w B A l) :
    Calls Try.prog 19 #[.slice A l.length cap] w fun e w' => e = .returned (.bool (zeroL l)) ∧ w' = w := by
  have hC : Calls Try.prog 27 #[.slice A l.length cap, .func (.func 28) #[] #[]] w fun e w' => e = .returned (.bool (!zeroL l)) ∧ w' = w := by
    have hz := zeroL_nz l
    have hI := wIndex_any A cap l B w hl hbs
    by_cases h : nzL l < l.length
    · rw [if_pos h] at hI
      have e : zeroL l = false := by rw [hz]; simp; omega
      rw [e]
      clear hz e
      generalize nzL l = J at *
      go_enter Try.func27, Try.ntmps27
      go_wp2_with (refine hI.mono ?_; rintro e w1 ⟨rfl, rfl⟩)
      go_ret
      exact ⟨ret_bool (by simp), rfl⟩
    · rw [if_neg h] at hI
      have e : zeroL l = true := by rw [hz]; simp; omega
      rw [e]
      clear hz e
      go_enter Try.func27, Try.ntmps27
      go_wp2_with (refine hI.mono ?_; rintro e w1 ⟨rfl, rfl⟩)
      go_ret
      exact ⟨ret_bool (by simp), rfl⟩
  generalize zeroL l = z at *
  go_enter Try.func19, Try.ntmps19
  go_wp2_with (refine hC.mono ?_; rintro e w1 ⟨rfl, rfl⟩)
  go_ret
  exact ⟨ret_bool (by cases z <;> rfl), rfl⟩
set_option maxHeartbeats 1000000 in
theorem rZero_any (A : Option Addr) (cap : Nat) (l : List UInt8) (B : Nat) (w : World) (hl : l.length ≤ 9223372036854775807) (hbs : Bs w B A l) :
    Calls Try.prog 14 #[.slice A l.length cap] w fun e w' => e = .returned (.bool (zeroL l)) ∧ w' = w := by
  have hz := zeroL_nz l
  have hle := nzL_le l
  have H1 := Lib.hid (fun h => nzL_at (l := l) h)
  have H2 := Lib.hid (fun (k : Nat) (hk : k < nzL l) h => nzL_before (l := l) hk h)
  generalize nzL l = J at *
  generalize zeroL l = z at *
  have HZ := Lib.hid hz; clear hz
  go_enter Try.func14, Try.ntmps14
  go_wp2
  go_loop [3] (fun i => ∃ k : Nat, k ≤ J ∧ i = .int .i64 k) (fun i => l.length - (intOf i).toNat)
  case atStart => exact ⟨0, Nat.zero_le _, rfl⟩
  case round =>
    obtain ⟨k, hk, rfl⟩ := hrel
    by_cases hlt : k < l.length
    · obtain ⟨b, off, x, rfl, hb, hx, hc, HX⟩ := byte_at hbs hlt
      by_cases hJ : k < J
      · have hx0 : x = 0 := by rw [HX.out, H2.out k hJ hlt]; rfl
        subst hx0
        go_wp2
        go_round
        case rel => exact ⟨k + 1, by omega, by go_num⟩
        case measure => simp [intOf]; omega
      · obtain rfl : k = J := by omega
        have hne := byte_ne (H1.out hlt)
        rw [← HX.out] at hne
        go_wp2
        go_ret
        exact ⟨ret_bool (by rw [HZ.out]; simp; omega), rfl⟩
    · go_wp2
      go_ret
      exact ⟨ret_bool (by rw [HZ.out]; simp; omega), rfl⟩
theorem wEnd_any (g : Nat) (x : Bool) (w : World) (h : w.cell? ⟨g, 5, none⟩ = some (.bool x)) : Calls Try.prog 20 #[.pointer (some ⟨g, 0, none⟩)] w fun e w' => e = .returned (.int .i64 (endI x)) ∧ w' = w := by
  cases x
  all_goals
    go_enter Try.func20, Try.ntmps20
    go_wp2
    go_ret
    exact ⟨rfl, rfl⟩
theorem wBad_any (g : Nat) (x : Bool) (w : World) (h : w.cell? ⟨g, 2, none⟩ = some (.bool x)) : Calls Try.prog 21 #[.pointer (some ⟨g, 0, none⟩)] w fun e w' => e = .returned (.int .i64 (badI x)) ∧ w' = w := by
  cases x
  all_goals
    go_enter Try.func21, Try.ntmps21
    go_wp2
    go_ret
    exact ⟨rfl, rfl⟩
theorem r5End_any (x : Bool) (w : World) : Calls Try.prog 15 #[.bool x] w fun e w' => e = .returned (.int .i64 (endI x)) ∧ w' = w := by
  cases x
  all_goals
    go_enter Try.func15, Try.ntmps15
    go_wp2
    go_ret
    exact ⟨rfl, rfl⟩
theorem r5Head_any (x : Bool) (w : World) : Calls Try.prog 13 #[.bool x] w fun e w' => e = .returned (.int .i64 (hdN x : Nat)) ∧ w' = w := by
  cases x
  all_goals
    go_enter Try.func13, Try.ntmps13
    go_wp2
    go_ret
    exact ⟨rfl, rfl⟩
theorem r5Rec_any (A : Option Addr) (cap : Nat) (l : List UInt8) (B : Nat) (w : World) (hl : l.length ≤ 9223372036854775807) (hbs : Bs w B A l) :
    Calls Try.prog 12 #[.slice A l.length cap] w fun e w' => e = .returned (.bool (recB l)) ∧ w' = w := by
  by_cases h7 : 7 ≤ l.length
  · obtain ⟨b, off, x, rfl, hb, hx, hc, HX⟩ := byte_at hbs (show 6 < l.length by omega)
    have hxn : x = byN l 6 := by rw [HX.out]; exact byN_at _
    have hr : recB l = (decide (5 ≤ x) && decide (x ≤ 8)) := by unfold recB; rw [← hxn]; simp [h7]
    rw [hr]
    clear hr hxn
    by_cases h5 : 5 ≤ x
    · have h5' : (5 : Int) ≤ (x : Int) := by omega
      go_enter Try.func12, Try.ntmps12
      go_wp2
      go_ret
      exact ⟨ret_bool (by simp [h5]; omega), rfl⟩
    · have h5' : decide ((5 : Int) ≤ (x : Int)) = false := by simp; omega
      go_enter Try.func12, Try.ntmps12
      go_wp2
      go_ret
      exact ⟨ret_bool (by simp [h5]), rfl⟩
  · have hr : recB l = false := by unfold recB; simp [h7]
    rw [hr]
    have hd : decide ((7 : Int) ≤ (l.length : Int)) = false := by simp; omega
    go_enter Try.func12, Try.ntmps12
    go_wp2
    go_ret
    exact ⟨ret_bool rfl, rfl⟩
theorem cReadFixed32_long (A : Option Addr) (cap : Nat) (l : List UInt8) (w : World) (hs : 4 ≤ l.length) (hl : l.length ≤ cap) (hbs : Bs w w.heap.size A l) :
    Calls Try.prog 29 #[.slice A l.length cap] w fun e w' => e = .returned (.tuple #[.int .u32 (unB (l.take 4) : Nat), .int .i64 0]) ∧ Below w.heap.size w w' := by
  have hlt := unB_lt (l.take 4)
  rw [List.length_take, Nat.min_eq_left hs] at hlt
  have h4 : unB (l.take 4) ≤ 4294967295 := by omega
  have hR := cread_long 4 A cap l w (by omega) hs hl hbs
  generalize unB (l.take 4) = q at *
  have hw : IntKind.u32.wrap (q : Int) = (q : Int) := u32_in _ (by omega)
  clear hlt
  go_enter Try.func29, Try.ntmps29
  go_wp2_with (refine hR.mono ?_; rintro e w1 ⟨rfl, hb⟩)
  go_ret2
  exact ⟨ret_two rfl rfl, hb⟩
end Go.Proofs.Ytlcnachblcacjaa
