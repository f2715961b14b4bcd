/-
  The document's writer of entries: what texts have in common; an entry.
-/
import Derived.Test.YtkajgpcnodgpcaaVar
import Derived.Test.YtkajgpcnodgpcaaCodJ
import Derived.BigQuiet
namespace Go.Proofs.Ytkajgpcnodgpcaa
set_option linter.unusedSimpArgs false
set_option linter.unusedVariables false
open Go.RowKit Go.IntWalk

/-! ### what two texts begin with that is the same -/
def comL (a b : List UInt8) : Nat := (List.zip a b).findIdx fun p => p.1 != p.2
theorem comL_le (a b : List UInt8) : comL a b ≤ a.length ∧ comL a b ≤ b.length := by
  have h := List.findIdx_le_length (p := fun p : UInt8 × UInt8 => p.1 != p.2) (xs := List.zip a b)
  rw [List.length_zip] at h
  unfold comL
  omega
theorem comL_before {a b : List UInt8} {k : Nat} (hk : k < comL a b) (h1 : k < a.length) (h2 : k < b.length) : a[k]'h1 = b[k]'h2 := by
  have := List.not_of_lt_findIdx hk
  simp only [bne_iff_ne, ne_eq, Decidable.not_not, List.getElem_zip, Bool.not_eq_true, bne_eq_false_iff_eq] at this
  exact this
theorem comL_at {a b : List UInt8} (h1 : comL a b < a.length) (h2 : comL a b < b.length) : a[comL a b]'h1 ≠ b[comL a b]'h2 := by
  have h := List.findIdx_getElem (xs := List.zip a b) (p := fun p : UInt8 × UInt8 => p.1 != p.2) (w := by rw [List.length_zip]; exact Nat.lt_min.2 ⟨h1, h2⟩)
  simp only [List.getElem_zip, bne_iff_ne] at h
  exact h
theorem comL_comm (a b : List UInt8) : comL a b = comL b a := by
  unfold comL
  induction a generalizing b with
  | nil => cases b <;> rfl
  | cons x a ih =>
    cases b with
    | nil => rfl
    | cons y b =>
      simp only [List.zip_cons_cons, List.findIdx_cons]
      rw [ih b, show (x != y) = (y != x) from bne_comm]
/-- byte k of a slice that reads as l -/
theorem byte_of {w : World} {B b off : Nat} {l : List UInt8} (h : Bs w B (some ⟨b, off, none⟩) l) {k : Nat} (hk : k < l.length) : w.cell? ⟨b, off + k, none⟩ = some (.int .u8 ((l[k]'hk).toNat : Int)) := by
  rcases h with h | ⟨b', off', hA, _, hc⟩
  · have : l = [] := by simpa using h
    subst this; simp at hk
  · injection hA with hA
    injection hA with e1 e2
    subst e1 e2
    exact hc k _ (by simp [hk, byteV])
theorem Rd.addr {w : World} {B : Nat} {A : Option Addr} {l : List UInt8} (h : Bs w B A l) {k : Nat} (hk : k < l.length) : ∃ b off, A = some ⟨b, off, none⟩ := by
  rcases h with h | ⟨b', off', hA, _⟩
  · have : l = [] := by simpa using h
    subst this; simp at hk
  · exact ⟨_, _, hA⟩
set_option maxHeartbeats 1000000 in
theorem rcommon_any (A1 A2 : Option Addr) (c1 c2 B1 B2 : Nat) (a b : List UInt8) (w : World) (ha : a.length ≤ 140737488351240) (hb : b.length ≤ 140737488351240)
    (h1 : Bs w B1 A1 a) (h2 : Bs w B2 A2 b) (hB1 : B1 ≤ w.heap.size) (hB2 : B2 ≤ w.heap.size) :
    Calls Try.prog 58 #[.slice A1 a.length c1, .slice A2 b.length c2] w fun e w' => e = .returned (.int .i64 (comL a b : Nat)) ∧ Below w.heap.size w w' := by
  have hle := comL_le a b
  have H1 := Lib.hid (fun h1 h2 => comL_at (a := a) (b := b) h1 h2)
  have H2 := Lib.hid (fun (k : Nat) (hk : k < comL a b) h1 h2 => comL_before (a := a) (b := b) hk h1 h2)
  generalize comL a b = J at *
  go_enter Try.func58, Try.ntmps58
  go_wp2
  go_loopw [5] (fun i wr => ∃ k : Nat, k ≤ J ∧ i = .int .i64 k ∧ Hid (Below w.heap.size w wr)) (fun i _ => J - (intOf i).toNat)
  case atStart => exact ⟨0, Nat.zero_le _, rfl, Below.refl _ _⟩
  case round =>
    obtain ⟨k, hk, rfl, HW⟩ := hrel
    by_cases hka : k < a.length
    · by_cases hkb : k < b.length
      · obtain ⟨b1, o1, rfl⟩ := Rd.addr h1 hka
        obtain ⟨b2, o2, rfl⟩ := Rd.addr h2 hkb
        have c1 := byte_of (h1.keep (HW.out.mono hB1)) hka
        have c2 := byte_of (h2.keep (HW.out.mono hB2)) hkb
        by_cases hkJ : k < J
        · have hn : (a[k].toNat : Int) = b[k].toNat := by rw [H2.out k hkJ hka hkb]
          go_wp2_with fail
          go_quiet (fail)
          go_wp2
          go_roundw
          case rel => exact ⟨k + 1, by omega, by go_num, below_drewN HW.out _⟩
          case measure => simp [intOf]; omega
        · obtain rfl : k = J := by omega
          have hne : ((a[k].toNat : Int) == (b[k].toNat : Int)) = false := by
            have := H1.out hka hkb
            rw [beq_eq_false_iff_ne]
            exact fun h => this (UInt8.toNat_inj.1 (by omega))
          go_wp2_with fail
          go_quiet (fail)
          go_wp2
          go_ret
          exact ⟨rfl, below_drewN HW.out _⟩
      · obtain rfl : k = J := by omega
        go_wp2_with fail
        go_quiet (fail)
        go_wp2
        go_ret
        exact ⟨rfl, below_drewN HW.out _⟩
    · obtain rfl : k = J := by omega
      go_wp2_with fail
      go_quiet (fail)
      go_wp2
      go_ret
      exact ⟨rfl, below_drewN HW.out _⟩
end Go.Proofs.Ytkajgpcnodgpcaa
