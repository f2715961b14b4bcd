/-
  Tombstones in a row; the place of one.
-/
import Derived.Test.YtodnojpolkdlmaaTmC
import Derived.Deep.RegionHeld3
import Derived.Deep.DrawnRows
import Derived.Deep.LoopGhost
namespace Go.Proofs.Ytodnojpolkdlmaa
set_option linter.unusedSimpArgs false
set_option linter.unusedVariables false
open Go.RowKit Go.IntWalk
attribute [local go_sem ↓] Go.wp_at_zero Go.wp_at_succ

def tbsC (l : List Tb) : List Value := l.flatMap tbC
theorem tbsC_len (l : List Tb) : (tbsC l).length = l.length * 3 := by
  unfold tbsC
  induction l with
  | nil => rfl
  | cons e l ih => rw [List.flatMap_cons, List.length_append, ih, List.length_cons]; show 3 + _ = _; omega
theorem tbsC_at (l : List Tb) : ∀ (k j : Nat) (hk : k < l.length), j < 3 → (tbsC l)[k * 3 + j]? = (tbC (l[k]'hk))[j]? := by
  induction l with
  | nil => intro k j hk; simp at hk
  | cons e l ih =>
    intro k j hk hj
    unfold tbsC
    rw [List.flatMap_cons]
    rcases k with _ | k
    · rw [List.getElem?_append_left (by show 0 * 3 + j < 3; omega)]
      simp
    · rw [List.getElem?_append_right (by show 3 ≤ (k + 1) * 3 + j; omega)]
      have h4 : (tbC e).length = 3 := rfl
      rw [h4, show (k + 1) * 3 + j - 3 = k * 3 + j by omega]
      have := ih k j (by simpa using hk) hj
      unfold tbsC at this
      rw [this]
      simp
/-- tombstone k of a list that reads as l: its three cells -/
theorem tb_at {w : World} {B : Nat} {A : Option Addr} {l : List Tb} (h : Rd w B A (tbsC l)) {k : Nat} (hk : k < l.length) :
    ∃ b off, A = some ⟨b, off, none⟩ ∧ b < B ∧ w.cell? ⟨b, off + k * 3, none⟩ = some (.string (l[k]'hk).b) ∧ w.cell? ⟨b, off + k * 3 + 1, none⟩ = some (.string (l[k]'hk).e) ∧
      w.cell? ⟨b, off + k * 3 + 2, none⟩ = some (.int .u64 (l[k]'hk).s) := by
  rcases h with h | ⟨b, off, rfl, hb, hc⟩
  · have := tbsC_len l
    rw [h] at this; simp at this; omega
  · refine ⟨b, off, rfl, hb, ?_, ?_, ?_⟩
    · exact hc (k * 3 + 0) _ (tbsC_at l k 0 hk (by omega))
    · exact hc (k * 3 + 1) _ (tbsC_at l k 1 hk (by omega))
    · exact hc (k * 3 + 2) _ (tbsC_at l k 2 hk (by omega))
/-- how many tombstones are ahead of one -/
def posT (how : Int) : List Tb → Tb → Nat
  | [], _ => 0
  | y :: l, x => if ordT how y x < 0 then posT how l x + 1 else 0
def thereT (how : Int) (l : List Tb) (x : Tb) : Bool := match l[posT how l x]? with
  | none => false
  | some y => ordT how y x == 0
theorem posT_le (how : Int) (l : List Tb) (x : Tb) : posT how l x ≤ l.length := by
  induction l with
  | nil => exact Nat.le_refl _
  | cons y l ih => unfold posT; split <;> simp <;> omega
theorem posT_eq {how : Int} {x : Tb} : ∀ {l : List Tb} {k : Nat}, k ≤ l.length → (∀ (t : Nat) (y : Tb), l[t]? = some y → t < k → ordT how y x < 0) → (∀ y, l[k]? = some y → 0 ≤ ordT how y x) → posT how l x = k
  | [], k, hk, _, _ => by simp at hk; simp [posT, hk]
  | y :: l, 0, _, _, h2 => by
    have := h2 y rfl
    unfold posT
    rw [if_neg (by omega)]
  | y :: l, k + 1, hk, h1, h2 => by
    unfold posT
    rw [if_pos (h1 0 y rfl (by omega)), posT_eq (by simpa using hk) (fun t z hz ht => h1 (t + 1) z (by simpa using hz) (by omega)) (fun z hz => h2 z (by simpa using hz))]
set_option maxHeartbeats 4000000 in
set_option maxRecDepth 100000 in
theorem bsT_any (g : Nat) (how : Int) (l : List Tb) (A : Option Addr) (cap : Nat) (x : Tb) (w : World) (hl : l.length ≤ 1000000) (hr : Rd w w.heap.size A (tbsC l)) (h0 : w.cell? ⟨g, 0, none⟩ = some (.int .i64 how)) (hg : g < w.heap.size)
    (hm : ∀ (i j : Nat) (y z : Tb), i ≤ j → l[i]? = some y → l[j]? = some z → ordT how z x < 0 → ordT how y x < 0) :
    Calls Try.prog 24 #[.slice A l.length cap, .agg #[.string x.b, .string x.e, .int .u64 x.s], .func (.func 25) #[.pointer (some ⟨g, 0, none⟩)] #[]] w fun e w' =>
      e = .returned (.tuple #[.int .i64 (posT how l x), .bool (thereT how l x)]) ∧ Below w.heap.size w w' := by
  obtain ⟨xb, xe, xs⟩ := x
  dsimp only
  have HM := Lib.hid hm
  have HR := Lib.hid hr
  have hO := fun y wr (hb : Below w.heap.size w wr) => mOrder_any g how y ⟨xb, xe, xs⟩ wr ((hb.cell (p := ⟨g, 0, none⟩) hg).trans h0) (Nat.lt_of_lt_of_le hg hb.size)
  have HO := Lib.hid hO
  clear hm hr hO h0
  have HB0 := Lib.hid ((Below.refl _ w).alloc (Nat.le_refl _) (.cells #[.string xb, .string xe, .int .u64 xs] 71))
  have HK0 := Lib.hid (Blk.new w 71 #[.string xb, .string xe, .int .u64 xs])
  go_enter Try.func24, Try.ntmps24
  go_wp2_with fail
  go_loopg [9, 10] l.length (fun kx s9 s10 wr => ∃ lo hi : Nat, s9 = .int .i64 lo ∧ s10 = .int .i64 hi ∧ lo ≤ hi ∧ hi ≤ l.length ∧ hi - lo ≤ kx ∧ Hid (Below w.heap.size w wr) ∧ Hid (Blk wr w.heap.size 71 #[.string xb, .string xe, .int .u64 xs]) ∧
    Hid ((∀ (t : Nat) (y : Tb), l[t]? = some y → t < lo → ordT how y ⟨xb, xe, xs⟩ < 0) ∧ (∀ (t : Nat) (y : Tb), l[t]? = some y → hi ≤ t → 0 ≤ ordT how y ⟨xb, xe, xs⟩)))
  case atStart => exact ⟨0, l.length, rfl, rfl, Nat.zero_le _, Nat.le_refl _, by omega, HB0.out, HK0.out, fun t y _ ht => absurd ht (Nat.not_lt_zero _), fun t y hy ht => by rw [List.getElem?_eq_none ht] at hy; cases hy⟩
  case round =>
    clear HB0 HK0
    obtain ⟨lo, hi, rfl, rfl, hlh, hin, hgh, HB, HK, HI⟩ := hrel
    by_cases hlt : lo < hi
    · obtain ⟨ab, ao, rfl, hab, t0, t1, t2⟩ := tb_at HR.out (k := (lo + hi) / 2) (by omega)
      have hY : l[(lo + hi) / 2]? = some l[(lo + hi) / 2] := List.getElem?_eq_getElem (by omega)
      have hmid : ((lo : Int) + (hi : Int)) / 2 = (((lo + hi) / 2 : Nat) : Int) := by omega
      have hml : lo ≤ (lo + hi) / 2 ∧ (lo + hi) / 2 < hi := by omega
      generalize l[(lo + hi) / 2] = y at *
      obtain ⟨yb, ye, ys⟩ := y
      dsimp only at t0 t1 t2
      have hO := fun w' hb => HO.out ⟨yb, ye, ys⟩ w' hb
      dsimp only at hO
      generalize hoo : ordT how ⟨yb, ye, ys⟩ ⟨xb, xe, xs⟩ = o at hO
      have HOO := Lib.hid hO
      have HOE := Lib.hid hoo
      clear hO hoo
      have tq : ∀ w', Below wr.heap.size wr w' → (w'.cell? ⟨ab, ao + ((lo + hi) / 2) * 3, none⟩ = some (.string yb) ∧ w'.cell? ⟨ab, ao + ((lo + hi) / 2) * 3 + 1, none⟩ = some (.string ye) ∧ w'.cell? ⟨ab, ao + ((lo + hi) / 2) * 3 + 2, none⟩ = some (.int .u64 ys)) ∧
          (w'.cell? ⟨w.heap.size, 0, none⟩ = some (.string xb) ∧ w'.cell? ⟨w.heap.size, 1, none⟩ = some (.string xe) ∧ w'.cell? ⟨w.heap.size, 2, none⟩ = some (.int .u64 xs)) := by
        intro w' h'
        have hB := HB.out.trans (h'.mono HB.out.size)
        have hX := HK.out.below h' HK.out.lt
        exact ⟨⟨(hB.cell (p := ⟨ab, ao + ((lo + hi) / 2) * 3, none⟩) hab).trans t0, (hB.cell (p := ⟨ab, ao + ((lo + hi) / 2) * 3 + 1, none⟩) hab).trans t1, (hB.cell (p := ⟨ab, ao + ((lo + hi) / 2) * 3 + 2, none⟩) hab).trans t2⟩, hX.cell 0, hX.cell 1, hX.cell 2⟩
      have HSS := Lib.hid tq
      clear tq t0 t1 t2
      have HMI := Lib.hid hmid
      clear hmid
      go_wp2_with fail
      rw [HMI.out]
      clear HMI
      generalize (lo + hi) / 2 = m at *
      have hmn : (0 : Int) ≤ (m : Int) ∧ (m : Int) < (l.length : Int) := by omega
      have hmt : ((m : Nat) : Int).toNat = m := by omega
      refine wp_region_held_drew (S := fun w' => Below wr.heap.size wr w') (by kernel_rfl) (Below.refl _ _).drew (fun hHeld => ?_)
      refine wpAnyH_take (i := 0) (v := ?_) rfl (by kernel_rfl) (by kernel_rfl) (by kernel_rfl) (fun _ _ _ h => h) (Or.inl ⟨by rfl, ?_⟩) (by assumption) ?_
      rotate_left
      · (intro w hSw; obtain ⟨⟨k0, k1, k2⟩, l0, l1, l2⟩ := HSS.out w hSw; go_simp; try (with_reducible rfl))
      try simp only [Act.put, List.getElem_toArray, List.getElem_cons_succ, List.getElem_cons_zero, List.setIfInBounds_toArray, List.set_cons_zero, List.set_cons_succ]
      refine wpAnyH_take (i := 1) (v := ?_) rfl (by kernel_rfl) (by kernel_rfl) (by kernel_rfl) (fun _ _ _ h => h) (Or.inl ⟨by rfl, ?_⟩) (by assumption) ?_
      rotate_left
      · (intro w hSw; obtain ⟨⟨k0, k1, k2⟩, l0, l1, l2⟩ := HSS.out w hSw; go_simp; try (with_reducible rfl))
      try simp only [Act.put, List.getElem_toArray, List.getElem_cons_succ, List.getElem_cons_zero, List.setIfInBounds_toArray, List.set_cons_zero, List.set_cons_succ]
      refine wpAnyH_take (i := 2) (v := ?_) rfl (by kernel_rfl) (by kernel_rfl) (by kernel_rfl) (fun _ _ _ h => h) (Or.inl ⟨by rfl, ?_⟩) (by assumption) ?_
      rotate_left
      · (intro w hSw; obtain ⟨⟨k0, k1, k2⟩, l0, l1, l2⟩ := HSS.out w hSw; go_simp; try (with_reducible rfl))
      try simp only [Act.put, List.getElem_toArray, List.getElem_cons_succ, List.getElem_cons_zero, List.setIfInBounds_toArray, List.set_cons_zero, List.set_cons_succ]
      refine wpAnyH_take (i := 3) (v := ?_) rfl (by kernel_rfl) (by kernel_rfl) (by kernel_rfl) (fun _ _ _ h => h) (Or.inl ⟨by rfl, ?_⟩) (by assumption) ?_
      rotate_left
      · (intro w hSw; obtain ⟨⟨k0, k1, k2⟩, l0, l1, l2⟩ := HSS.out w hSw; go_simp; try (with_reducible rfl))
      try simp only [Act.put, List.getElem_toArray, List.getElem_cons_succ, List.getElem_cons_zero, List.setIfInBounds_toArray, List.set_cons_zero, List.set_cons_succ]
      refine wpAnyH_take (i := 4) (v := ?_) rfl (by kernel_rfl) (by kernel_rfl) (by kernel_rfl) (fun _ _ _ h => h) (Or.inl ⟨by rfl, ?_⟩) (by assumption) ?_
      rotate_left
      · (intro w hSw; obtain ⟨⟨k0, k1, k2⟩, l0, l1, l2⟩ := HSS.out w hSw; go_simp; try (with_reducible rfl))
      try simp only [Act.put, List.getElem_toArray, List.getElem_cons_succ, List.getElem_cons_zero, List.setIfInBounds_toArray, List.set_cons_zero, List.set_cons_succ]
      refine wpAnyH_take (i := 5) (v := ?_) rfl (by kernel_rfl) (by kernel_rfl) (by kernel_rfl) (fun _ _ _ h => h) (Or.inl ⟨by rfl, ?_⟩) (by assumption) ?_
      rotate_left
      · (intro w hSw; obtain ⟨⟨k0, k1, k2⟩, l0, l1, l2⟩ := HSS.out w hSw; go_simp; try (with_reducible rfl))
      try simp only [Act.put, List.getElem_toArray, List.getElem_cons_succ, List.getElem_cons_zero, List.setIfInBounds_toArray, List.set_cons_zero, List.set_cons_succ]
      refine wpAnyH_ready (rs := [6]) (by kernel_rfl) (by simp) ?_
      refine AllReadyH.cons rfl (fun K hK => ?_) ?_
      · go_simp
        refine (HOO.out _ (HB.out.trans (hHeld.mono HB.out.size))).mono ?_
        rintro e w3 ⟨rfl, hb3⟩
        have hB3 := hHeld.trans (hb3.mono hHeld.size)
        refine hK.out _ _ hB3 (fun hHeld => ?_)
        clear hb3 hB3
        clear hK K
        try simp only [Act.put, List.getElem_toArray, List.getElem_cons_succ, List.getElem_cons_zero, List.setIfInBounds_toArray, List.set_cons_zero, List.set_cons_succ]
        refine wpAnyH_take (i := 7) (v := ?_) rfl (by kernel_rfl) (by kernel_rfl) (by kernel_rfl) (fun _ _ _ h => h) (Or.inl ⟨by rfl, ?_⟩) (by assumption) ?_
        rotate_left
        · (intro w hSw; (try dsimp only at hSw); go_simp; try (with_reducible rfl))
        try simp only [Act.put, List.getElem_toArray, List.getElem_cons_succ, List.getElem_cons_zero, List.setIfInBounds_toArray, List.set_cons_zero, List.set_cons_succ]
        refine wpAnyH_done (by kernel_rfl) ?_ _
        have HBW := Lib.hid (HB.out.trans (hHeld.mono HB.out.size))
        have HKW := Lib.hid (HK.out.below hHeld HK.out.lt)
        clear hHeld
        by_cases ho : o < 0
        · have hd : decide (o < 0) = true := by simpa using ho
          go_wp2_with fail
          go_roundg (hi - (m + 1))
          case measure => omega
          case rel => exact ⟨m + 1, hi, by go_num, rfl, by omega, hin, Nat.le_refl _, HBW.out, HKW.out, fun t y hy ht => HM.out t m y _ (by omega) hy hY (by rw [HOE.out]; exact ho), HI.out.2⟩
        · have hd : decide (o < 0) = false := by simpa using ho
          go_wp2_with fail
          go_roundg (m - lo)
          case measure => omega
          case rel => exact ⟨lo, m, rfl, rfl, by omega, by omega, Nat.le_refl _, HBW.out, HKW.out, HI.out.1, fun t y hy ht => by
            rcases Int.lt_or_le (ordT how y ⟨xb, xe, xs⟩) 0 with h | h
            · have := HM.out m t _ y ht hY hy h
              rw [HOE.out] at this
              omega
            · exact h⟩
      exact AllReadyH.nil
    · obtain rfl : lo = hi := by omega
      have hpos := posT_eq (how := how) (x := ⟨xb, xe, xs⟩) hin HI.out.1 (fun y hy => HI.out.2 lo y hy (Nat.le_refl _))
      have HPS := Lib.hid hpos
      have hth : thereT how l ⟨xb, xe, xs⟩ = match l[lo]? with
        | none => false
        | some y => ordT how y ⟨xb, xe, xs⟩ == 0 := by unfold thereT; rw [hpos]
      by_cases hn : lo < l.length
      · obtain ⟨ab, ao, rfl, hab, t0, t1, t2⟩ := tb_at HR.out (k := lo) hn
        rw [List.getElem?_eq_getElem hn] at hth
        generalize l[lo] = y at *
        obtain ⟨yb, ye, ys⟩ := y
        dsimp only at t0 t1 t2 hth
        have hO := fun w' hb => HO.out ⟨yb, ye, ys⟩ w' hb
        dsimp only at hO
        generalize hoo : ordT how ⟨yb, ye, ys⟩ ⟨xb, xe, xs⟩ = o at hO hth
        have HTH := Lib.hid hth
        clear hth hoo hpos
        have HOO := Lib.hid hO
        clear hO
        have tq : ∀ w', Below wr.heap.size wr w' → (w'.cell? ⟨ab, ao + lo * 3, none⟩ = some (.string yb) ∧ w'.cell? ⟨ab, ao + lo * 3 + 1, none⟩ = some (.string ye) ∧ w'.cell? ⟨ab, ao + lo * 3 + 2, none⟩ = some (.int .u64 ys)) ∧
            (w'.cell? ⟨w.heap.size, 0, none⟩ = some (.string xb) ∧ w'.cell? ⟨w.heap.size, 1, none⟩ = some (.string xe) ∧ w'.cell? ⟨w.heap.size, 2, none⟩ = some (.int .u64 xs)) := by
          intro w' h'
          have hB := HB.out.trans (h'.mono HB.out.size)
          have hX := HK.out.below h' HK.out.lt
          exact ⟨⟨(hB.cell (p := ⟨ab, ao + lo * 3, none⟩) hab).trans t0, (hB.cell (p := ⟨ab, ao + lo * 3 + 1, none⟩) hab).trans t1, (hB.cell (p := ⟨ab, ao + lo * 3 + 2, none⟩) hab).trans t2⟩, hX.cell 0, hX.cell 1, hX.cell 2⟩
        have HSS := Lib.hid tq
        clear tq t0 t1 t2
        have hmn : (0 : Int) ≤ (lo : Int) ∧ (lo : Int) < (l.length : Int) := by omega
        have hmt : ((lo : Nat) : Int).toNat = lo := by omega
        go_wp2_with fail
        refine wp_region_held_drew (S := fun w' => Below wr.heap.size wr w') (by kernel_rfl) (Below.refl _ _).drew (fun hHeld => ?_)
        refine wpAnyH_take (i := 0) (v := ?_) rfl (by kernel_rfl) (by kernel_rfl) (by kernel_rfl) (fun _ _ _ h => h) (Or.inl ⟨by rfl, ?_⟩) (by assumption) ?_
        rotate_left
        · (intro w hSw; obtain ⟨⟨k0, k1, k2⟩, l0, l1, l2⟩ := HSS.out w hSw; go_simp; try (with_reducible rfl))
        try simp only [Act.put, List.getElem_toArray, List.getElem_cons_succ, List.getElem_cons_zero, List.setIfInBounds_toArray, List.set_cons_zero, List.set_cons_succ]
        refine wpAnyH_take (i := 1) (v := ?_) rfl (by kernel_rfl) (by kernel_rfl) (by kernel_rfl) (fun _ _ _ h => h) (Or.inl ⟨by rfl, ?_⟩) (by assumption) ?_
        rotate_left
        · (intro w hSw; obtain ⟨⟨k0, k1, k2⟩, l0, l1, l2⟩ := HSS.out w hSw; go_simp; try (with_reducible rfl))
        try simp only [Act.put, List.getElem_toArray, List.getElem_cons_succ, List.getElem_cons_zero, List.setIfInBounds_toArray, List.set_cons_zero, List.set_cons_succ]
        refine wpAnyH_take (i := 2) (v := ?_) rfl (by kernel_rfl) (by kernel_rfl) (by kernel_rfl) (fun _ _ _ h => h) (Or.inl ⟨by rfl, ?_⟩) (by assumption) ?_
        rotate_left
        · (intro w hSw; obtain ⟨⟨k0, k1, k2⟩, l0, l1, l2⟩ := HSS.out w hSw; go_simp; try (with_reducible rfl))
        try simp only [Act.put, List.getElem_toArray, List.getElem_cons_succ, List.getElem_cons_zero, List.setIfInBounds_toArray, List.set_cons_zero, List.set_cons_succ]
        refine wpAnyH_take (i := 3) (v := ?_) rfl (by kernel_rfl) (by kernel_rfl) (by kernel_rfl) (fun _ _ _ h => h) (Or.inl ⟨by rfl, ?_⟩) (by assumption) ?_
        rotate_left
        · (intro w hSw; obtain ⟨⟨k0, k1, k2⟩, l0, l1, l2⟩ := HSS.out w hSw; go_simp; try (with_reducible rfl))
        try simp only [Act.put, List.getElem_toArray, List.getElem_cons_succ, List.getElem_cons_zero, List.setIfInBounds_toArray, List.set_cons_zero, List.set_cons_succ]
        refine wpAnyH_take (i := 4) (v := ?_) rfl (by kernel_rfl) (by kernel_rfl) (by kernel_rfl) (fun _ _ _ h => h) (Or.inl ⟨by rfl, ?_⟩) (by assumption) ?_
        rotate_left
        · (intro w hSw; obtain ⟨⟨k0, k1, k2⟩, l0, l1, l2⟩ := HSS.out w hSw; go_simp; try (with_reducible rfl))
        try simp only [Act.put, List.getElem_toArray, List.getElem_cons_succ, List.getElem_cons_zero, List.setIfInBounds_toArray, List.set_cons_zero, List.set_cons_succ]
        refine wpAnyH_take (i := 5) (v := ?_) rfl (by kernel_rfl) (by kernel_rfl) (by kernel_rfl) (fun _ _ _ h => h) (Or.inl ⟨by rfl, ?_⟩) (by assumption) ?_
        rotate_left
        · (intro w hSw; obtain ⟨⟨k0, k1, k2⟩, l0, l1, l2⟩ := HSS.out w hSw; go_simp; try (with_reducible rfl))
        try simp only [Act.put, List.getElem_toArray, List.getElem_cons_succ, List.getElem_cons_zero, List.setIfInBounds_toArray, List.set_cons_zero, List.set_cons_succ]
        refine wpAnyH_take (i := 6) (v := ?_) rfl (by kernel_rfl) (by kernel_rfl) (by kernel_rfl) (fun _ _ _ h => h) (Or.inl ⟨by rfl, ?_⟩) (by assumption) ?_
        rotate_left
        · (intro w hSw; obtain ⟨⟨k0, k1, k2⟩, l0, l1, l2⟩ := HSS.out w hSw; go_simp; try (with_reducible rfl))
        try simp only [Act.put, List.getElem_toArray, List.getElem_cons_succ, List.getElem_cons_zero, List.setIfInBounds_toArray, List.set_cons_zero, List.set_cons_succ]
        refine wpAnyH_take (i := 7) (v := ?_) rfl (by kernel_rfl) (by kernel_rfl) (by kernel_rfl) (fun _ _ _ h => h) (Or.inl ⟨by rfl, ?_⟩) (by assumption) ?_
        rotate_left
        · (intro w hSw; obtain ⟨⟨k0, k1, k2⟩, l0, l1, l2⟩ := HSS.out w hSw; go_simp; try (with_reducible rfl))
        try simp only [Act.put, List.getElem_toArray, List.getElem_cons_succ, List.getElem_cons_zero, List.setIfInBounds_toArray, List.set_cons_zero, List.set_cons_succ]
        refine wpAnyH_take (i := 8) (v := ?_) rfl (by kernel_rfl) (by kernel_rfl) (by kernel_rfl) (fun _ _ _ h => h) (Or.inl ⟨by rfl, ?_⟩) (by assumption) ?_
        rotate_left
        · (intro w hSw; obtain ⟨⟨k0, k1, k2⟩, l0, l1, l2⟩ := HSS.out w hSw; go_simp; try (with_reducible rfl))
        try simp only [Act.put, List.getElem_toArray, List.getElem_cons_succ, List.getElem_cons_zero, List.setIfInBounds_toArray, List.set_cons_zero, List.set_cons_succ]
        refine wpAnyH_take (i := 9) (v := ?_) rfl (by kernel_rfl) (by kernel_rfl) (by kernel_rfl) (fun _ _ _ h => h) (Or.inl ⟨by rfl, ?_⟩) (by assumption) ?_
        rotate_left
        · (intro w hSw; obtain ⟨⟨k0, k1, k2⟩, l0, l1, l2⟩ := HSS.out w hSw; go_simp; try (with_reducible rfl))
        try simp only [Act.put, List.getElem_toArray, List.getElem_cons_succ, List.getElem_cons_zero, List.setIfInBounds_toArray, List.set_cons_zero, List.set_cons_succ]
        refine wpAnyH_take (i := 10) (v := ?_) rfl (by kernel_rfl) (by kernel_rfl) (by kernel_rfl) (fun _ _ _ h => h) (Or.inl ⟨by rfl, ?_⟩) (by assumption) ?_
        rotate_left
        · (intro w hSw; obtain ⟨⟨k0, k1, k2⟩, l0, l1, l2⟩ := HSS.out w hSw; go_simp; try (with_reducible rfl))
        try simp only [Act.put, List.getElem_toArray, List.getElem_cons_succ, List.getElem_cons_zero, List.setIfInBounds_toArray, List.set_cons_zero, List.set_cons_succ]
        refine wpAnyH_ready (rs := [11]) (by kernel_rfl) (by simp) ?_
        refine AllReadyH.cons rfl (fun K hK => ?_) ?_
        · go_simp
          refine (HOO.out _ (HB.out.trans (hHeld.mono HB.out.size))).mono ?_
          rintro e w3 ⟨rfl, hb3⟩
          have hB3 := hHeld.trans (hb3.mono hHeld.size)
          refine hK.out _ _ hB3 (fun hHeld => ?_)
          clear hb3 hB3
          clear hK K
          try simp only [Act.put, List.getElem_toArray, List.getElem_cons_succ, List.getElem_cons_zero, List.setIfInBounds_toArray, List.set_cons_zero, List.set_cons_succ]
          refine wpAnyH_take (i := 12) (v := ?_) rfl (by kernel_rfl) (by kernel_rfl) (by kernel_rfl) (fun _ _ _ h => h) (Or.inl ⟨by rfl, ?_⟩) (by assumption) ?_
          rotate_left
          · (intro w hSw; (try dsimp only at hSw); go_simp; try (with_reducible rfl))
          try simp only [Act.put, List.getElem_toArray, List.getElem_cons_succ, List.getElem_cons_zero, List.setIfInBounds_toArray, List.set_cons_zero, List.set_cons_succ]
          refine wpAnyH_take (i := 13) (v := ?_) rfl (by kernel_rfl) (by kernel_rfl) (by kernel_rfl) (fun _ _ _ h => h) (Or.inl ⟨by rfl, ?_⟩) (by assumption) ?_
          rotate_left
          · (intro w hSw; (try dsimp only at hSw); go_simp; try (with_reducible rfl))
          try simp only [Act.put, List.getElem_toArray, List.getElem_cons_succ, List.getElem_cons_zero, List.setIfInBounds_toArray, List.set_cons_zero, List.set_cons_succ]
          refine wpAnyH_take (i := 14) (v := ?_) rfl (by kernel_rfl) (by kernel_rfl) (by kernel_rfl) (fun _ _ _ h => h) (Or.inl ⟨by rfl, ?_⟩) (by assumption) ?_
          rotate_left
          · (intro w hSw; (try dsimp only at hSw); go_simp; try (with_reducible rfl))
          try simp only [Act.put, List.getElem_toArray, List.getElem_cons_succ, List.getElem_cons_zero, List.setIfInBounds_toArray, List.set_cons_zero, List.set_cons_succ]
          refine wpAnyH_take (i := 15) (v := ?_) rfl (by kernel_rfl) (by kernel_rfl) (by kernel_rfl) (fun _ _ _ h => h) (Or.inl ⟨by rfl, ?_⟩) (by assumption) ?_
          rotate_left
          · (intro w hSw; (try dsimp only at hSw); go_simp; try (with_reducible rfl))
          try simp only [Act.put, List.getElem_toArray, List.getElem_cons_succ, List.getElem_cons_zero, List.setIfInBounds_toArray, List.set_cons_zero, List.set_cons_succ]
          refine wpAnyH_done (by kernel_rfl) ?_ _
          have HBW := Lib.hid (HB.out.trans (hHeld.mono HB.out.size))
          clear hHeld
          go_wp2_with fail
          go_ret2
          exact ⟨by rw [HPS.out, HTH.out]; rfl, HBW.out⟩
        exact AllReadyH.nil
      · obtain rfl : lo = l.length := by omega
        rw [List.getElem?_eq_none (Nat.le_refl _)] at hth
        have HTH := Lib.hid hth
        clear hth hpos
        go_wp2_with fail
        go_quiet (fail)
        go_wp2_with fail
        go_ret2
        exact ⟨by rw [HPS.out, HTH.out]; rfl, below_drewN HB.out _⟩
end Go.Proofs.Ytodnojpolkdlmaa
