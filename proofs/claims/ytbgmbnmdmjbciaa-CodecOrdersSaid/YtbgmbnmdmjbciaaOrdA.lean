/-
  Between and After: the strings they make.
-/
import Derived.Test.YtbgmbnmdmjbciaaCodB
import Derived.Test.YtbgmbnmdmjbciaaMem
import Derived.Deep.RegionHeld3
import Derived.Deep.DrawnRows
import Derived.Deep.CutRange
import Derived.BigQuiet
namespace Go.Proofs.Ytbgmbnmdmjbciaa
open Go.RowKit Go.IntWalk
set_option linter.unusedSimpArgs false
set_option linter.unusedVariables false
attribute [local go_sem ↓] Go.wp_at_zero Go.wp_at_succ

/-- the first i bytes, and one more than the next -/
def upB (a : ByteArray) (i : Nat) : ByteArray := a.extract 0 i ++ ⟨[UInt8.ofNat ((a.data.toList.getD i 0).toNat + 1)].toArray⟩
theorem getD_byte (a : ByteArray) (i : Nat) (hi : i < a.size) : a.data.toList.getD i 0 = a[i] := by
  have h : i < a.data.size := hi
  simp [List.getD, List.getElem?_eq_getElem (show i < a.data.toList.length by simpa using h)]
  rfl
theorem conv1 (w : World) (b : UInt8) (t : TypeId) : Sem.run Try.prog (convert 22 9 (.slice (some ⟨w.heap.size, 0, none⟩) 1 1)) ((w.alloc (.cells #[.int .u8 (b.toNat : Int)] t)).drew) = .ok (.string ⟨[b].toArray⟩) ((w.alloc (.cells #[.int .u8 (b.toNat : Int)] t)).drew) :=
  run_toString _ _ _ 5 (some ⟨w.heap.size, 0, none⟩) 1 (w.heap.size + 1) [b] Try.underlying22 Try.underlying5 Try.underlying9 ((Rd.new w #[.int .u8 (b.toNat : Int)] t))

set_option maxHeartbeats 1000000 in
theorem rmore_any (a : ByteArray) (i : Nat) (w : World) (hi : i < a.size) (ha : a.size ≤ 140737488351232) (hlt : (a.data.toList.getD i 0).toNat < 255) :
    Calls Try.prog 39 #[.string a, .int .i64 i] w fun e w' => e = .returned (.string (upB a i)) ∧ Below w.heap.size w w' := by
  have hu : upB a i = a.extract 0 i ++ ⟨[UInt8.ofNat ((a.data.toList.getD i 0).toNat + 1)].toArray⟩ := rfl
  have hx : ((a[i].toNat : Int) + 1) % 256 = ((UInt8.ofNat ((a.data.toList.getD i 0).toNat + 1)).toNat : Int) := by
    rw [getD_byte a i hi] at hlt ⊢
    simp
  generalize UInt8.ofNat ((a.data.toList.getD i 0).toNat + 1) = b at *
  have hc := conv1 w b 5
  have HU := Lib.hid hu; clear hu
  clear hlt
  go_enter Try.func39, Try.ntmps39
  go_wp2_with fail
  go_region
  go_wp2
  go_ret
  exact ⟨ret_str HU.out.symm, ((Below.refl _ w).alloc (Nat.le_refl _) _).drew⟩

def low (a : ByteArray) : Nat := a.data.toList.findIdx fun x => decide (x.toNat < 255)
theorem low_le (a : ByteArray) : low a ≤ a.size := by
  have h := List.findIdx_le_length (p := fun x : UInt8 => decide (x.toNat < 255)) (xs := a.data.toList)
  rw [Array.length_toList] at h
  exact h
theorem low_at (a : ByteArray) (h : low a < a.size) : (a[low a]'h).toNat < 255 := by
  have h' : low a < a.data.toList.length := by rw [Array.length_toList]; exact h
  have := List.findIdx_getElem (w := h')
  have e : (a[low a]'h) = a.data.toList[low a]'h' := by show a.data[low a] = _; simp
  rw [e]
  exact of_decide_eq_true this
theorem low_before (a : ByteArray) (k : Nat) (hk : k < low a) (h : k < a.size) : ¬ (a[k]'h).toNat < 255 := by
  have := List.not_of_lt_findIdx hk
  show ¬ (a.data[k]).toNat < 255
  simpa using this
def aftB (how : Int) (a : ByteArray) : ByteArray := if how = 0 then (if low a < a.size then upB a (low a) else a) else a
set_option maxHeartbeats 1000000 in
theorem rAfter_any (how : Int) (a : ByteArray) (w : World) (ha : a.size ≤ 140737488351232) :
    Calls Try.prog 27 #[.int .i64 how, .string a] w fun e w' => e = .returned (.string (aftB how a)) ∧ Below w.heap.size w w' := by
  by_cases hh : how = 0
  · subst hh
    have hA : aftB 0 a = if low a < a.size then upB a (low a) else a := by unfold aftB; rw [if_pos rfl]
    rw [hA]
    have hle := low_le a
    have H1 := Lib.hid (low_at a)
    have H2 := Lib.hid (low_before a)
    clear hA
    generalize low a = J at *
    obtain ⟨r, hr⟩ : ∃ r, (if J < a.size then upB a J else a) = r := ⟨_, rfl⟩
    rw [hr]
    have HR := Lib.hid hr; clear hr
    go_enter Try.func27, Try.ntmps27
    go_wp2
    go_loop [5] (fun i => ∃ k : Nat, k ≤ J ∧ i = .int .i64 k) (fun i => J - (intOf i).toNat)
    case atStart => exact ⟨0, Nat.zero_le _, rfl⟩
    case round =>
      obtain ⟨k, hk, rfl⟩ := hrel
      by_cases hkJ : k < J
      · have hks : k < a.size := by omega
        have hn : decide ((a[k].toNat : Int) < 255) = false := by have := H2.out k hkJ hks; simp; omega
        go_wp2
        go_round
        case rel => exact ⟨k + 1, by omega, by go_num⟩
        case measure => simp [intOf]; omega
      · obtain rfl : k = J := by omega
        by_cases hks : k < a.size
        · have hn : decide ((a[k].toNat : Int) < 255) = true := by have := H1.out hks; simp; omega
          have hm := fun w => rmore_any a k w hks ha (by rw [getD_byte a k hks]; exact H1.out hks)
          have HM := Lib.hid hm; clear hm
          go_wp2_with fail
          refine (HM.out _).mono ?_
          rintro e w1 ⟨rfl, hb⟩
          go_wp2
          go_ret
          exact ⟨ret_str (by rw [← HR.out, if_pos hks]), hb⟩
        · go_wp2
          go_ret
          exact ⟨ret_str (by rw [← HR.out, if_neg hks]), Below.refl _ _⟩
  · have hA : aftB how a = a := by unfold aftB; rw [if_neg hh]
    rw [hA]
    have hhb : (how == 0) = false := by simpa using hh
    go_enter Try.func27, Try.ntmps27
    go_wp2
    go_loop [5] (fun i => i = .int .i64 0) (fun _ => 0)
    case atStart => rfl
    case round =>
      obtain rfl := hrel
      go_wp2
      all_goals go_ret
      all_goals exact ⟨ret_str rfl, Below.refl _ _⟩
set_option maxHeartbeats 1000000 in
theorem cAfter_any (how : Int) (a : ByteArray) (w : World) (ha : a.size ≤ 140737488351232) :
    Calls Try.prog 25 #[.int .i64 how, .string a] w fun e w' => e = .returned (.string (aftB how a)) ∧ Below w.heap.size w w' := by
  by_cases hh : how = 0
  · subst hh
    have hA : aftB 0 a = if low a < a.size then upB a (low a) else a := by unfold aftB; rw [if_pos rfl]
    rw [hA]
    have hle := low_le a
    have H1 := Lib.hid (low_at a)
    have H2 := Lib.hid (low_before a)
    clear hA
    generalize low a = J at *
    obtain ⟨r, hr⟩ : ∃ r, (if J < a.size then upB a J else a) = r := ⟨_, rfl⟩
    rw [hr]
    have HR := Lib.hid hr; clear hr
    go_enter Try.func25, Try.ntmps25
    go_wp2
    go_loop [5, 11] (fun _ i => ∃ k : Nat, k ≤ J ∧ i = .int .i64 k) (fun _ i => J - (intOf i).toNat)
    case atStart => exact ⟨0, Nat.zero_le _, rfl⟩
    case round =>
      obtain ⟨k, hk, rfl⟩ := hrel
      by_cases hkJ : k < J
      · have hks : k < a.size := by omega
        have hn : decide ((a[k].toNat : Int) < 255) = false := by have := H2.out k hkJ hks; simp; omega
        go_wp2
        go_round
        case rel => exact ⟨k + 1, by omega, by go_num⟩
        case measure => simp [intOf]; omega
      · obtain rfl : k = J := by omega
        by_cases hks : k < a.size
        · have hn : decide ((a[k].toNat : Int) < 255) = true := by have := H1.out hks; simp; omega
          have hu : upB a k = a.extract 0 k ++ ⟨[UInt8.ofNat ((a.data.toList.getD k 0).toNat + 1)].toArray⟩ := rfl
          have hx : ((a[k].toNat : Int) + 1) % 256 = ((UInt8.ofNat ((a.data.toList.getD k 0).toNat + 1)).toNat : Int) := by
            rw [getD_byte a k hks]
            simp
          generalize UInt8.ofNat ((a.data.toList.getD k 0).toNat + 1) = b at *
          have hc := conv1 w b 5
          have HU := Lib.hid hu; clear hu
          go_wp2_with fail
          go_region
          go_wp2
          go_ret
          exact ⟨ret_str (by rw [← HR.out, if_pos hks, HU.out]), ((Below.refl _ w).alloc (Nat.le_refl _) _).drew⟩
        · go_wp2
          go_ret
          exact ⟨ret_str (by rw [← HR.out, if_neg hks]), Below.refl _ _⟩
  · have hA : aftB how a = a := by unfold aftB; rw [if_neg hh]
    rw [hA]
    have hhb : (how != 0) = true := by simpa using hh
    go_enter Try.func25, Try.ntmps25
    go_wp2
    go_ret
    exact ⟨ret_str rfl, Below.refl _ _⟩
end Go.Proofs.Ytbgmbnmdmjbciaa
