/-
  Between, the program's and the document's.
-/
import Derived.Test.YtbgmbnmdmjbciaaOrdA
namespace Go.Proofs.Ytbgmbnmdmjbciaa
open Go.RowKit Go.IntWalk
set_option linter.unusedSimpArgs false
set_option linter.unusedVariables false
attribute [local go_sem ↓] Go.wp_at_zero Go.wp_at_succ

theorem ext_pre (s p : ByteArray) (hle : p.size ≤ s.size) : s.extract 0 p.size = p ↔ p.data.toList <+: s.data.toList := by
  have e : (s.extract 0 p.size).data.toList = s.data.toList.take p.data.toList.length := by
    rw [Array.length_toList]
    show (s.extract 0 p.size).data.toList = s.data.toList.take p.size
    simp
  rw [List.prefix_iff_eq_take, ← e]
  exact ⟨fun h => by rw [h], fun h => (data_inj h).symm⟩
theorem hasPrefix_any (s p : ByteArray) (w : World) (hs : s.size ≤ 140737488351232) (hp : p.size ≤ 140737488351232) :
    Calls Try.prog 45 #[.string s, .string p] w fun e w' => e = .returned (.bool (decide (p.data.toList <+: s.data.toList))) ∧ w' = w := by
  obtain ⟨r, hr⟩ : ∃ r, decide (p.data.toList <+: s.data.toList) = r := ⟨_, rfl⟩
  rw [hr]
  have HR := Lib.hid hr; clear hr
  by_cases hle : p.size ≤ s.size
  · have hq : ((s.extract 0 p.size).toList == p.toList) = r := by
      rw [← HR.out, Bool.eq_iff_iff, eqB, decide_eq_true_iff]; exact ext_pre s p hle
    go_enter Try.func45, Try.ntmps45
    go_wp2
    go_ret
    exact ⟨ret_bool rfl, rfl⟩
  · have hq : false = r := by
      rw [← HR.out]
      symm
      rw [decide_eq_false_iff_not]
      intro h
      have := h.length_le
      rw [Array.length_toList, Array.length_toList] at this
      exact hle this
    subst hq
    go_enter Try.func45, Try.ntmps45
    go_wp2
    go_ret
    exact ⟨ret_bool rfl, rfl⟩
theorem hasPrefix2_any (s p : ByteArray) (w : World) (hs : s.size ≤ 140737488351232) (hp : p.size ≤ 140737488351232) :
    Calls Try.prog 38 #[.string s, .string p] w fun e w' => e = .returned (.bool (decide (p.data.toList <+: s.data.toList))) ∧ w' = w := by
  go_enter Try.func38, Try.ntmps38
  go_wp2_with (go_at_call 45; refine (hasPrefix_any _ _ _ hs hp).mono ?_; rintro e w' ⟨rfl, rfl⟩)
  go_ret
  exact ⟨ret_bool rfl, rfl⟩

/-! ### where two strings part -/
def lcp (a b : ByteArray) : Nat := (List.zip a.data.toList b.data.toList).findIdx fun p => p.1 != p.2
theorem lcp_le (a b : ByteArray) : lcp a b ≤ a.size ∧ lcp a b ≤ b.size := by
  have h := List.findIdx_le_length (p := fun p : UInt8 × UInt8 => p.1 != p.2) (xs := List.zip a.data.toList b.data.toList)
  rw [List.length_zip, Array.length_toList, Array.length_toList] at h
  have : a.data.size = a.size := rfl
  have : b.data.size = b.size := rfl
  unfold lcp
  omega
theorem zip_len {a b : ByteArray} {k : Nat} (h1 : k < a.size) (h2 : k < b.size) : k < (List.zip a.data.toList b.data.toList).length := by
  rw [List.length_zip, Array.length_toList, Array.length_toList]
  exact Nat.lt_min.2 ⟨h1, h2⟩
theorem lcp_before (a b : ByteArray) (k : Nat) (hk : k < lcp a b) (h1 : k < a.size) (h2 : k < b.size) : a[k]'h1 = b[k]'h2 := by
  have := List.not_of_lt_findIdx hk
  simp only [bne_iff_ne, ne_eq, Decidable.not_not, List.getElem_zip, Bool.not_eq_true, bne_eq_false_iff_eq] at this
  exact this
theorem lcp_at (a b : ByteArray) (h1 : lcp a b < a.size) (h2 : lcp a b < b.size) : a[lcp a b]'h1 ≠ b[lcp a b]'h2 := by
  have h := List.findIdx_getElem (w := zip_len h1 h2)
  simp only [List.getElem_zip, bne_iff_ne] at h
  exact h
theorem cb_long : ∀ b c : List UInt8, ¬ Lib.compareBytes (b ++ c) b < 0
  | [], [] => by simp [Lib.compareBytes]
  | [], _ :: _ => by simp [Lib.compareBytes]
  | x :: b, c => by
    show ¬ Lib.compareBytes (x :: (b ++ c)) (x :: b) < 0
    simp only [Lib.compareBytes, UInt8.lt_irrefl, if_false]
    exact cb_long b c
theorem pre_of_lcp (a b : ByteArray) (h : lcp a b = a.size) : a.data.toList <+: b.data.toList := by
  have hb := (lcp_le a b).2
  rw [List.prefix_iff_eq_take]
  apply List.ext_getElem
  · simp
    show a.size = min a.size b.size
    omega
  · intro k h1 h2
    have hk : k < a.size := by simpa using h1
    rw [List.getElem_take]
    exact lcp_before a b k (by omega) hk (by omega)
theorem pre_of_lcp' (a b : ByteArray) (h : lcp a b = b.size) : b.data.toList <+: a.data.toList := by
  have hb := (lcp_le a b).1
  rw [List.prefix_iff_eq_take]
  apply List.ext_getElem
  · simp
    show b.size = min b.size a.size
    omega
  · intro k h1 h2
    have hk : k < b.size := by simpa using h1
    rw [List.getElem_take]
    exact (lcp_before a b k (by omega) (by omega) hk).symm
def btwG (a b : ByteArray) (J : Nat) : ByteArray := if h : J < a.size ∧ J < b.size then (if (a[J]'h.1).toNat < 255 ∧ (a[J]'h.1).toNat + 1 < (b[J]'h.2).toNat then upB a J else a) else a
def btwB (how : Int) (a b : ByteArray) : ByteArray := if how = 0 ∧ Lib.compareBytes a.data.toList b.data.toList < 0 then btwG a b (lcp a b) else a
set_option maxHeartbeats 1000000 in
theorem rBetween_any (how : Int) (a b : ByteArray) (w : World) (ha : a.size ≤ 140737488351232) (hb : b.size ≤ 140737488351232) :
    Calls Try.prog 26 #[.int .i64 how, .string a, .string b] w fun e w' => e = .returned (.string (btwB how a b)) ∧ Below w.heap.size w w' := by
  by_cases hh : how = 0
  · subst hh
    have hhb : ((0 : Int) != 0) = false := by simp
    by_cases hc : Lib.compareBytes a.data.toList b.data.toList < 0
    · have hB : btwB 0 a b = btwG a b (lcp a b) := by unfold btwB; rw [if_pos ⟨rfl, hc⟩]
      have hl : Op.bytesLess a.toList b.toList = true := (lessB a b).2 hc
      rw [hB]
      have hle := lcp_le a b
      have H1 := Lib.hid (lcp_at a b)
      have H2 := Lib.hid (lcp_before a b)
      clear hB
      generalize lcp a b = J at *
      obtain ⟨r, hr⟩ : ∃ r, btwG a b J = r := ⟨_, rfl⟩
      rw [hr]
      have HR := Lib.hid hr; clear hr
      go_enter Try.func26, Try.ntmps26
      go_wp2
      go_loopw [7] (fun i wr => ∃ k : Nat, k ≤ J ∧ i = .int .i64 k ∧ Hid (Below w.heap.size w wr)) (fun i _ => J - (intOf i).toNat)
      case atStart => exact ⟨0, Nat.zero_le _, rfl, Below.refl _ _⟩
      case round =>
        obtain ⟨k, hk, rfl, HW⟩ := hrel
        by_cases hkJ : k < J
        · have hka : k < a.size := by omega
          have hkb : k < b.size := by omega
          have hn : (a[k].toNat : Int) = b[k].toNat := by rw [H2.out k hkJ hka hkb]
          go_wp2_with fail
          go_quiet (fail)
          go_wp2
          go_roundw
          case rel => exact ⟨k + 1, by omega, by go_num, below_drewN HW.out _⟩
          case measure => simp [intOf]; omega
        · obtain rfl : k = J := by omega
          by_cases hka : k < a.size
          · by_cases hkb : k < b.size
            · have hne : ((a[k].toNat : Int) == (b[k].toNat : Int)) = false := by
                have := H1.out hka hkb
                rw [beq_eq_false_iff_ne]
                exact fun h => this (UInt8.toNat_inj.1 (by omega))
              have hr1 : btwG a b k = if (a[k]).toNat < 255 ∧ (a[k]).toNat + 1 < (b[k]).toNat then upB a k else a := by unfold btwG; rw [dif_pos ⟨hka, hkb⟩]
              rw [hr1] at HR
              clear hr1
              by_cases h255 : (a[k]).toNat < 255
              · have q1 : decide ((a[k].toNat : Int) < 255) = true := by simp; omega
                have hx1 : ((a[k].toNat : Int) + 1) % 256 = (a[k].toNat : Int) + 1 := by omega
                by_cases hup : (a[k]).toNat + 1 < (b[k]).toNat
                · have q2 : decide ((a[k].toNat : Int) + 1 < (b[k].toNat : Int)) = true := by simp; omega
                  have hm := fun w => rmore_any a k w hka ha (by rw [getD_byte a k hka]; exact h255)
                  have HM := Lib.hid hm; clear hm
                  go_wp2_with fail
                  go_quiet (fail)
                  go_wp2_with fail
                  go_quiet (fail)
                  go_wp2_with fail
                  refine (HM.out _).mono ?_
                  rintro e w1 ⟨rfl, hb1⟩
                  go_wp2
                  go_ret
                  exact ⟨ret_str (by rw [← HR.out, if_pos ⟨h255, hup⟩]), (below_drewN HW.out _).trans (hb1.mono HW.out.size)⟩
                · have q2 : decide ((a[k].toNat : Int) + 1 < (b[k].toNat : Int)) = false := by simp; omega
                  go_wp2_with fail
                  go_quiet (fail)
                  go_wp2_with fail
                  go_quiet (fail)
                  go_wp2
                  go_ret
                  exact ⟨ret_str (by rw [← HR.out, if_neg (fun h => hup h.2)]), below_drewN (below_drewN HW.out _) _⟩
              · have q1 : decide ((a[k].toNat : Int) < 255) = false := by simp; omega
                go_wp2_with fail
                go_quiet (fail)
                go_wp2_with fail
                go_quiet (fail)
                go_wp2
                go_ret
                exact ⟨ret_str (by rw [← HR.out, if_neg (fun h => h255 h.1)]), below_drewN (below_drewN HW.out _) _⟩
            · have hr1 : btwG a b k = a := by unfold btwG; rw [dif_neg (fun h => hkb h.2)]
              rw [hr1] at HR
              clear hr1
              go_wp2_with fail
              go_quiet (fail)
              go_wp2_with fail
              go_quiet (fail)
              go_wp2
              go_ret
              exact ⟨ret_str HR.out, below_drewN (below_drewN HW.out _) _⟩
          · have hr1 : btwG a b k = a := by unfold btwG; rw [dif_neg (fun h => hka h.1)]
            rw [hr1] at HR
            clear hr1
            go_wp2_with fail
            go_quiet (fail)
            go_wp2_with fail
            go_quiet (fail)
            go_wp2
            go_ret
            exact ⟨ret_str HR.out, below_drewN (below_drewN HW.out _) _⟩
    · have hB : btwB 0 a b = a := by unfold btwB; rw [if_neg (fun h => hc h.2)]
      have hl : Op.bytesLess a.toList b.toList = false := by rw [← Bool.not_eq_true]; exact fun h => hc ((lessB a b).1 h)
      rw [hB]
      go_enter Try.func26, Try.ntmps26
      go_wp2
      go_ret
      exact ⟨ret_str rfl, Below.refl _ _⟩
  · have hB : btwB how a b = a := by unfold btwB; rw [if_neg (fun h => hh h.1)]
    have hhb : (how != 0) = true := by simpa using hh
    rw [hB]
    go_enter Try.func26, Try.ntmps26
    go_wp2
    go_ret
    exact ⟨ret_str rfl, Below.refl _ _⟩
set_option maxHeartbeats 2000000 in
set_option maxRecDepth 100000 in
theorem cBetween_any (how : Int) (a b : ByteArray) (w : World) (ha : a.size ≤ 140737488351232) (hb : b.size ≤ 140737488351232) :
    Calls Try.prog 24 #[.int .i64 how, .string a, .string b] w fun e w' => e = .returned (.string (btwB how a b)) ∧ Below w.heap.size w w' := by
  by_cases hh : how = 0
  · subst hh
    have hhb : ((0 : Int) != 0) = false := by simp
    by_cases hc : Lib.compareBytes a.data.toList b.data.toList < 0
    · have hB : btwB 0 a b = btwG a b (lcp a b) := by unfold btwB; rw [if_pos ⟨rfl, hc⟩]
      have hl : Op.bytesLess a.toList b.toList = true := (lessB a b).2 hc
      rw [hB]
      have hle := lcp_le a b
      have hP := fun w => hasPrefix2_any b a w hb ha
      by_cases hpre : a.data.toList <+: b.data.toList
      · have hJ : lcp a b = a.size := by
          rcases Nat.lt_or_ge (lcp a b) a.size with h | h
          · exfalso
            have hb2 : a.size ≤ b.size := by have := hpre.length_le; rwa [Array.length_toList, Array.length_toList] at this
            have h1 := lcp_at a b h (by omega)
            apply h1
            have h2 := hpre.getElem (i := lcp a b) (by rw [Array.length_toList]; exact h)
            exact h2
          · omega
        have hr1 : btwG a b (lcp a b) = a := by unfold btwG; rw [dif_neg (fun h => by omega)]
        rw [hr1]
        rw [decide_eq_true hpre] at hP
        have HP := Lib.hid hP; clear hP
        clear hJ hle hr1
        go_enter Try.func24, Try.ntmps24
        go_wp2_with fail
        refine (HP.out _).mono ?_
        rintro e w1 ⟨rfl, rfl⟩
        go_wp2
        go_ret
        exact ⟨ret_str rfl, Below.refl _ _⟩
      · have hJa : lcp a b < a.size := by
          rcases Nat.lt_or_ge (lcp a b) a.size with h | h
          · exact h
          · exact absurd (pre_of_lcp a b (by omega)) hpre
        have hJb : lcp a b < b.size := by
          rcases Nat.lt_or_ge (lcp a b) b.size with h | h
          · exact h
          · exfalso
            obtain ⟨c, hcc⟩ := pre_of_lcp' a b (by omega)
            rw [← hcc] at hc
            exact cb_long _ _ hc
        rw [decide_eq_false hpre] at hP
        have HP := Lib.hid hP; clear hP
        have H1 := Lib.hid (lcp_at a b hJa hJb)
        have H2 := Lib.hid (lcp_before a b)
        clear hB hpre
        have hr1 : btwG a b (lcp a b) = if (a[lcp a b]).toNat < 255 ∧ (a[lcp a b]).toNat + 1 < (b[lcp a b]).toNat then upB a (lcp a b) else a := by unfold btwG; rw [dif_pos ⟨hJa, hJb⟩]
        rw [hr1]
        clear hr1
        generalize lcp a b = J at *
        obtain ⟨r, hr⟩ : ∃ r, (if (a[J]).toNat < 255 ∧ (a[J]).toNat + 1 < (b[J]).toNat then upB a J else a) = r := ⟨_, rfl⟩
        rw [hr]
        have HR := Lib.hid hr; clear hr
        go_enter Try.func24, Try.ntmps24
        go_wp2_with fail
        refine (HP.out _).mono ?_
        rintro e w1 ⟨rfl, rfl⟩
        go_wp2_with fail
        go_loopw [7] (fun i wr => ∃ k : Nat, k ≤ J ∧ i = .int .i64 k ∧ Hid (Below w1.heap.size w1 wr)) (fun i _ => J - (intOf i).toNat)
        case atStart => exact ⟨0, Nat.zero_le _, rfl, Below.refl _ _⟩
        case round =>
          obtain ⟨k, hk, rfl, HW⟩ := hrel
          have hka : k < a.size := by omega
          have hkb : k < b.size := by omega
          by_cases hkJ : k < J
          · have hn : (a[k].toNat : Int) = b[k].toNat := by rw [H2.out k hkJ hka hkb]
            go_wp2_with fail
            go_quiet (fail)
            go_wp2
            go_roundw
            case rel => exact ⟨k + 1, by omega, by go_num, below_drewN HW.out _⟩
            case measure => simp [intOf]; omega
          · obtain rfl : k = J := by omega
            have hne : ((a[k].toNat : Int) == (b[k].toNat : Int)) = false := by
              have := H1.out
              rw [beq_eq_false_iff_ne]
              exact fun h => this (UInt8.toNat_inj.1 (by omega))
            by_cases h255 : (a[k]).toNat < 255
            · have q1 : decide ((a[k].toNat : Int) < 255) = true := by simp; omega
              have hx1 : ((a[k].toNat : Int) + 1) % 256 = (a[k].toNat : Int) + 1 := by omega
              by_cases hup : (a[k]).toNat + 1 < (b[k]).toNat
              · have q2 : decide ((a[k].toNat : Int) + 1 < (b[k].toNat : Int)) = true := by simp; omega
                go_wp2_with fail
                go_quiet (fail)
                go_wp2_with fail
                go_quiet (fail)
                go_wp2_with fail
                have hu : upB a k = a.extract 0 k ++ ⟨[UInt8.ofNat ((a.data.toList.getD k 0).toNat + 1)].toArray⟩ := rfl
                have hx : ((a[k].toNat : Int) + 1) % 256 = ((UInt8.ofNat ((a.data.toList.getD k 0).toNat + 1)).toNat : Int) := by
                  rw [getD_byte a k hka]
                  simp
                clear hx1 q1 q2 hne
                have HUP := Lib.hid (And.intro h255 hup)
                generalize UInt8.ofNat ((a.data.toList.getD k 0).toNat + 1) = bb at *
                clear hup h255 H1
                generalize hz : World.drewN _ _ = wz
                have HW3 : Below w1.heap.size w1 wz := by rw [← hz]; exact below_drewN (below_drewN HW.out _) _
                clear hz
                have HW4 := Lib.hid HW3; clear HW3
                have hc1 := conv1 wz bb 5
                have HU := Lib.hid hu; clear hu
                go_region
                go_wp2
                go_ret
                exact ⟨ret_str (by rw [← HR.out, if_pos HUP.out, HU.out]), (HW4.out.alloc HW4.out.size _).drew⟩
              · have q2 : decide ((a[k].toNat : Int) + 1 < (b[k].toNat : Int)) = false := by simp; omega
                go_wp2_with fail
                go_quiet (fail)
                go_wp2_with fail
                go_quiet (fail)
                go_wp2
                go_ret
                exact ⟨ret_str (by rw [← HR.out, if_neg (fun h => hup h.2)]), below_drewN (below_drewN HW.out _) _⟩
            · have q1 : decide ((a[k].toNat : Int) < 255) = false := by simp; omega
              go_wp2_with fail
              go_quiet (fail)
              go_wp2_with fail
              go_quiet (fail)
              go_wp2
              go_ret
              exact ⟨ret_str (by rw [← HR.out, if_neg (fun h => h255 h.1)]), below_drewN (below_drewN HW.out _) _⟩
    · have hB : btwB 0 a b = a := by unfold btwB; rw [if_neg (fun h => hc h.2)]
      have hl : Op.bytesLess a.toList b.toList = false := by rw [← Bool.not_eq_true]; exact fun h => hc ((lessB a b).1 h)
      rw [hB]
      go_enter Try.func24, Try.ntmps24
      go_wp2
      go_ret
      exact ⟨ret_str rfl, Below.refl _ _⟩
  · have hB : btwB how a b = a := by unfold btwB; rw [if_neg (fun h => hh h.1)]
    have hhb : (how != 0) = true := by simpa using hh
    rw [hB]
    go_enter Try.func24, Try.ntmps24
    go_wp2
    go_ret
    exact ⟨ret_str rfl, Below.refl _ _⟩
end Go.Proofs.Ytbgmbnmdmjbciaa
