/-
  Where Between's and After's answers lie.
-/
import Derived.Test.YtbgmbnmdmjbciaaOrdB
namespace Go.Proofs.Ytbgmbnmdmjbciaa
open Go.RowKit Go.IntWalk
set_option linter.unusedSimpArgs false
set_option linter.unusedVariables false

theorem upB_list (a : ByteArray) (i : Nat) (hi : i < a.size) : (upB a i).data.toList = a.data.toList.take i ++ [UInt8.ofNat ((a[i]'hi).toNat + 1)] := by
  unfold upB
  rw [getD_byte a i hi]
  simp
theorem list_at (a : ByteArray) (i : Nat) (hi : i < a.size) : a.data.toList = a.data.toList.take i ++ (a[i]'hi) :: a.data.toList.drop (i + 1) := by
  have h : i < a.data.toList.length := by rw [Array.length_toList]; exact hi
  have e : (a[i]'hi) = a.data.toList[i]'h := by show a.data[i] = _; simp
  rw [e, List.getElem_cons_drop, List.take_append_drop]
theorem cb_mid (x y : UInt8) (h : x < y) (r q : List UInt8) : ∀ p : List UInt8, Lib.compareBytes (p ++ x :: r) (p ++ y :: q) < 0
  | [] => by simp [Lib.compareBytes, h]
  | z :: p => by
    show Lib.compareBytes (z :: (p ++ x :: r)) (z :: (p ++ y :: q)) < 0
    simp only [Lib.compareBytes, UInt8.lt_irrefl, if_false]
    exact cb_mid x y h r q p
theorem upB_size (a : ByteArray) (i : Nat) (hi : i < a.size) : (upB a i).size ≤ a.size := by
  have h := congrArg List.length (upB_list a i hi)
  rw [Array.length_toList, List.length_append, List.length_take, Array.length_toList] at h
  have h1 : (upB a i).data.size = (upB a i).size := rfl
  have h2 : a.data.size = a.size := rfl
  simp at h
  omega
theorem upB_above (a : ByteArray) (i : Nat) (hi : i < a.size) (h : (a[i]'hi).toNat < 255) : Lib.compareBytes a.data.toList (upB a i).data.toList < 0 := by
  rw [upB_list a i hi]
  have := cb_mid (a[i]'hi) (UInt8.ofNat ((a[i]'hi).toNat + 1)) (by rw [UInt8.lt_iff_toNat_lt]; simp; omega) (a.data.toList.drop (i + 1)) [] (a.data.toList.take i)
  rwa [← list_at a i hi] at this
theorem upB_below (a b : ByteArray) (i : Nat) (hi : i < a.size) (hj : i < b.size) (he : a.data.toList.take i = b.data.toList.take i) (h : (a[i]'hi).toNat + 1 < (b[i]'hj).toNat) :
    Lib.compareBytes (upB a i).data.toList b.data.toList < 0 := by
  rw [upB_list a i hi, he]
  have hb := (b[i]'hj).toNat_lt
  have := cb_mid (UInt8.ofNat ((a[i]'hi).toNat + 1)) (b[i]'hj) (by rw [UInt8.lt_iff_toNat_lt]; simp; omega) [] (b.data.toList.drop (i + 1)) (b.data.toList.take i)
  rwa [← list_at b i hj] at this
theorem take_lcp (a b : ByteArray) : a.data.toList.take (lcp a b) = b.data.toList.take (lcp a b) := by
  have h := lcp_le a b
  have h1 : a.data.size = a.size := rfl
  have h2 : b.data.size = b.size := rfl
  apply List.ext_getElem
  · simp; omega
  · intro k k1 k2
    have hk : k < lcp a b := by simp at k1; omega
    rw [List.getElem_take, List.getElem_take]
    exact lcp_before a b k hk (by omega) (by omega)
theorem aft_size (how : Int) (a : ByteArray) : (aftB how a).size ≤ a.size := by
  unfold aftB
  split
  · split
    · rename_i h; exact upB_size a _ h
    · exact Nat.le_refl _
  · exact Nat.le_refl _
theorem aft_above (how : Int) (a : ByteArray) : cmpH how a (aftB how a) ≤ 0 := by
  unfold aftB
  split
  · rename_i hh
    split
    · rename_i h
      have := upB_above a _ h (low_at a h)
      unfold cmpH; rw [if_neg (by omega)]; omega
    · rw [cmpH_refl]; omega
  · rw [cmpH_refl]; omega
theorem btw_all (how : Int) (a b : ByteArray) : (btwB how a b).size ≤ a.size ∧ (cmpH how a b < 0 → cmpH how a (btwB how a b) ≤ 0 ∧ cmpH how (btwB how a b) b < 0) := by
  unfold btwB
  split
  · rename_i hh
    unfold btwG
    split
    · rename_i hj
      split
      · rename_i hu
        refine ⟨upB_size a _ hj.1, fun _ => ?_⟩
        have h1 := upB_above a _ hj.1 hu.1
        have h2 := upB_below a b _ hj.1 hj.2 (take_lcp a b) hu.2
        unfold cmpH
        rw [if_neg (by omega), if_neg (by omega)]
        omega
      · exact ⟨Nat.le_refl _, fun h => ⟨by rw [cmpH_refl]; omega, h⟩⟩
    · exact ⟨Nat.le_refl _, fun h => ⟨by rw [cmpH_refl]; omega, h⟩⟩
  · exact ⟨Nat.le_refl _, fun h => ⟨by rw [cmpH_refl]; omega, h⟩⟩
end Go.Proofs.Ytbgmbnmdmjbciaa
