/-
  The document's Build.
-/
import Derived.Test.YtkajgpcnodgpcaaBlkD
import Derived.Deep.RegionHeld3
import Derived.Deep.DrawnRows
namespace Go.Proofs.Ytkajgpcnodgpcaa
set_option linter.unusedSimpArgs false
set_option linter.unusedVariables false
open Go.RowKit Go.IntWalk
attribute [local go_sem ↓] Go.wp_at_zero Go.wp_at_succ

theorem rHow_any (how : Int) (w : World) :
    Calls Try.prog 29 #[.int .i64 how] w fun e w' => e = .returned (.bool (how == 0 || how == 1)) ∧ w' = w := by
  by_cases h : how = 0
  · subst h
    go_enter Try.func29, Try.ntmps29
    go_wp2
    go_ret
    exact ⟨rfl, rfl⟩
  · have hb : (how == 0) = false := by simpa using h
    rw [hb]
    go_enter Try.func29, Try.ntmps29
    go_wp2
    go_ret
    exact ⟨ret_bool (by simp), rfl⟩
theorem bHow_any (how : Int) (w : World) :
    Calls Try.prog 25 #[.int .i64 how] w fun e w' => e = .returned (.bool (how == 0 || how == 1)) ∧ w' = w := by
  by_cases h : how = 0
  · subst h
    go_enter Try.func25, Try.ntmps25
    go_wp2
    go_ret
    exact ⟨rfl, rfl⟩
  · have hb : (how == 0) = false := by simpa using h
    rw [hb]
    go_enter Try.func25, Try.ntmps25
    go_wp2
    go_ret
    exact ⟨ret_bool (by simp), rfl⟩
/-- what is wrong with an entry behind the key ahead -/
def chkN (how : Int) (p : Option K) (e : E) : Int :=
  if chkE e = 0 then (match p with | none => 0 | some q => if 0 ≤ ordK how q e.k then 1 else 0) else chkE e
def chkB (how : Int) : Option K → List E → Int
  | _, [] => 0
  | p, e :: l => if chkN how p e = 0 then chkB how (some e.k) l else chkN how p e
/-- the key ahead of place k -/
def ahead (l : List E) (k : Nat) : Option K := if k = 0 then none else (l[k - 1]?).map (·.k)
theorem chkB_drop (how : Int) (l : List E) (k : Nat) (h : k < l.length) : chkB how (ahead l k) (l.drop k) = if chkN how (ahead l k) l[k] = 0 then chkB how (ahead l (k + 1)) (l.drop (k + 1)) else chkN how (ahead l k) l[k] := by
  have e : ahead l (k + 1) = some l[k].k := by unfold ahead; simp [h]
  rw [e, ← List.getElem_cons_drop h]; rfl
theorem chkN_ok {how : Int} {p : Option K} {e : E} (h : chkN how p e = 0) : chkE e = 0 := by
  unfold chkN at h
  split at h
  · assumption
  · assumption
theorem chkB_all (how : Int) : ∀ (l : List E) (p : Option K), chkB how p l = 0 → ∀ e ∈ l, chkE e = 0
  | [], _, _ => fun e h => by cases h
  | e :: l, p, h => by
    unfold chkB at h
    split at h
    · rename_i h1
      intro x hx
      rcases List.mem_cons.1 hx with rfl | hx
      · exact chkN_ok h1
      · exact chkB_all how l _ h x hx
    · rename_i h1; exact absurd h h1
def buildR (how R : Int) (l : List E) : List UInt8 × Int :=
  if (how == 0 || how == 1) = false ∨ R < 1 ∨ 1024 < R then ([], 1) else if 65536 < l.length then ([], 2) else if chkB how none l ≠ 0 then ([], chkB how none l)
  else if 4194304 < (endL (wst R.toNat l)).length then ([], 2) else (endL (wst R.toNat l), 0)
set_option maxHeartbeats 4000000 in
set_option maxRecDepth 100000 in
theorem rBuild_any (how R : Int) (l : List E) (A : Option Addr) (cap : Nat) (w : World) (hll : l.length ≤ 140737488351240) (hs : ∀ e ∈ l, 0 ≤ e.k.s)
    (hr : Rd w w.heap.size A (entsC l)) :
    Calls Try.prog 8 #[.int .i64 how, .int .i64 R, .slice A l.length cap] w fun e w' => ∃ v, e = .returned (.tuple #[v, .int .i64 (buildR how R l).2]) ∧ Below w.heap.size w w' ∧ Own w' w.heap.size 5 1 v (buildR how R l).1.length ((buildR how R l).1.map byteV) := by
  rcases h0 : (how == 0 || how == 1) with _ | _
  · have hz : buildR how R l = ([], 1) := by unfold buildR; rw [if_pos (.inl h0)]
    rw [hz]
    go_enter Try.func8, Try.ntmps8
    go_wp2_with fail
    refine (rHow_any _ _).mono ?_
    rw [h0]
    rintro e w1 ⟨rfl, rfl⟩
    go_wp2
    go_ret2
    exact ⟨_, rfl, Below.refl _ _, Own.nil _ _ _ _⟩
  by_cases h1 : R < 1
  · have q1 : decide (R < 1) = true := by simpa using h1
    have hz : buildR how R l = ([], 1) := by unfold buildR; rw [if_pos (.inr (.inl h1))]
    rw [hz]
    go_enter Try.func8, Try.ntmps8
    go_wp2_with fail
    refine (rHow_any _ _).mono ?_
    rw [h0]
    rintro e w1 ⟨rfl, rfl⟩
    go_wp2
    go_ret2
    exact ⟨_, rfl, Below.refl _ _, Own.nil _ _ _ _⟩
  by_cases h2 : 1024 < R
  · have q1 : decide (R < 1) = false := by simpa using h1
    have q2 : decide (1024 < R) = true := by simpa using h2
    have hz : buildR how R l = ([], 1) := by unfold buildR; rw [if_pos (.inr (.inr h2))]
    rw [hz]
    go_enter Try.func8, Try.ntmps8
    go_wp2_with fail
    refine (rHow_any _ _).mono ?_
    rw [h0]
    rintro e w1 ⟨rfl, rfl⟩
    go_wp2
    go_ret2
    exact ⟨_, rfl, Below.refl _ _, Own.nil _ _ _ _⟩
  have q1 : decide (R < 1) = false := by simpa using h1
  have q2 : decide (1024 < R) = false := by simp; omega
  by_cases h3 : 65536 < l.length
  · have q3 : decide ((65536 : Int) < (l.length : Int)) = true := by simp; omega
    have hz : buildR how R l = ([], 2) := by unfold buildR; rw [if_neg (by rw [h0]; simp; omega), if_pos h3]
    rw [hz]
    go_enter Try.func8, Try.ntmps8
    go_wp2_with fail
    refine (rHow_any _ _).mono ?_
    rw [h0]
    rintro e w1 ⟨rfl, rfl⟩
    go_wp2
    go_ret2
    exact ⟨_, rfl, Below.refl _ _, Own.nil _ _ _ _⟩
  have q3 : decide ((65536 : Int) < (l.length : Int)) = false := by simp; omega
  obtain ⟨R', hR'⟩ : ∃ R' : Nat, R = (R' : Int) := ⟨R.toNat, by omega⟩
  subst hR'
  have hz : buildR how (R' : Int) l = if chkB how none l ≠ 0 then ([], chkB how none l) else if 4194304 < (endL (wst R' l)).length then ([], 2) else (endL (wst R' l), 0) := by
    unfold buildR; rw [if_neg (by rw [h0]; simp; omega), if_neg h3]; rfl
  obtain ⟨rz, hrz⟩ : ∃ rz, buildR how (R' : Int) l = rz := ⟨_, rfl⟩
  rw [hrz]
  rw [hrz] at hz
  have HZ := Lib.hid hz; clear hz hrz
  have hW := fun (hok : ∀ e ∈ l, chkE e = 0) w hh => rwritten_any R' l A cap w (by omega) (by omega) (by omega) hok hs hh
  have HW := Lib.hid hW; clear hW
  have H0 := Lib.hid h0; clear h0
  go_enter Try.func8, Try.ntmps8
  go_wp2_with fail
  refine (rHow_any _ _).mono ?_
  rw [H0.out]
  rintro e w0 ⟨rfl, rfl⟩
  go_wp2_with fail
  go_loopw [8, 9] (fun s8 _ wr => ∃ k : Nat, k ≤ l.length ∧ s8 = .int .i64 k ∧ Hid (Below w0.heap.size w0 wr) ∧ Hid (chkB how none l = chkB how (ahead l k) (l.drop k))) (fun s8 _ _ => l.length - (intOf s8).toNat)
  case atStart => exact ⟨0, Nat.zero_le _, rfl, Below.refl _ _, rfl⟩
  case round =>
    obtain ⟨k, hk, rfl, HB, HC⟩ := hrel
    by_cases hlt : k < l.length
    · have HR := Lib.hid hr
      obtain ⟨ab, ao, rfl, hab, t0, t1, t2, t3⟩ := ent_at hr hlt
      have hcd := chkB_drop how l k hlt
      have HCD := Lib.hid hcd; clear hcd
      have hcE : chkE l[k] = if chkK l[k].k = 0 then (if 16384 < l[k].v.size then 2 else 0) else chkK l[k].k := rfl
      have hcN : chkN how (ahead l k) l[k] = if chkE l[k] = 0 then (match ahead l k with | none => 0 | some q => if 0 ≤ ordK how q l[k].k then 1 else 0) else chkE l[k] := rfl
      generalize l[k] = ee at *
      obtain ⟨⟨u, s, q⟩, v⟩ := ee
      dsimp only at t0 t1 t2 t3 hcE hcN
      have d0 := (HB.out.cell (p := ⟨ab, ao + k * 4, none⟩) hab).trans t0
      have d1 := (HB.out.cell (p := ⟨ab, ao + k * 4 + 1, none⟩) hab).trans t1
      have d2 := (HB.out.cell (p := ⟨ab, ao + k * 4 + 2, none⟩) hab).trans t2
      have T0 := Lib.hid t0
      have T1 := Lib.hid t1
      have T2 := Lib.hid t2
      have T3 := Lib.hid t3
      clear t0 t1 t2 t3 hr
      have hC := fun w => rCheck_any u s q w
      generalize chkN how (ahead l k) ⟨⟨u, s, q⟩, v⟩ = cn at *
      generalize chkE ⟨⟨u, s, q⟩, v⟩ = ce at *
      generalize chkK ⟨u, s, q⟩ = ck at *
      have HCE := Lib.hid hcE; clear hcE
      have HCN := Lib.hid hcN; clear hcN
      have HCK := Lib.hid hC; clear hC
      go_wp2_with fail
      refine (HCK.out _).mono ?_
      rintro e w1 ⟨rfl, hb1⟩
      have HB1 := Lib.hid (HB.out.trans (hb1.mono HB.out.size))
      have d3 := (HB1.out.cell (p := ⟨ab, ao + k * 4 + 3, none⟩) hab).trans T3.out
      clear hb1 d0 d1 d2
      by_cases hck : ck = 0
      · subst hck
        have hce := HCE.out
        rw [if_pos rfl] at hce
        go_wp2_with fail
        refine (rvalue_any v _).mono ?_
        rw [← hce]
        rintro e w2 ⟨rfl, rfl⟩
        clear hce
        by_cases hc0 : ce = 0
        · subst hc0
          rcases k with _ | j
          · have hcn := HCN.out
            have hah : ahead l 0 = none := rfl
            rw [if_pos rfl, hah] at hcn
            go_wp2_with fail
            go_quiet (fail)
            go_wp2_with fail
            go_roundw
            case rel => exact ⟨1, by omega, by go_num, below_drewN HB1.out _, by rw [HC.out, HCD.out, hcn]; simp [Hid]⟩
            case measure => simp [intOf]; omega
          · have hj : j < l.length := by omega
            obtain ⟨ab', ao', hE', -, p0, p1, p2, -⟩ := ent_at HR.out hj
            injection hE' with hE'
            injection hE' with e1 e2
            subst e1 e2
            have hah : ahead l (j + 1) = some l[j].k := by unfold ahead; simp [hj]
            have hcn := HCN.out
            rw [if_pos rfl, hah] at hcn
            clear HCN hah
            generalize l[j] = pe at *
            obtain ⟨⟨u', s', q'⟩, v'⟩ := pe
            dsimp only at hcn p0 p1 p2
            have hO := fun w => rOrder_any how s' q' s q u' u w
            generalize ordK how ⟨u', s', q'⟩ ⟨u, s, q⟩ = o at *
            have HO := Lib.hid hO; clear hO
            have HCN := Lib.hid hcn; clear hcn
            have hSS : ∀ w', Below w0.heap.size w0 w' →
                (w'.cell? ⟨ab, ao + j * 4, none⟩ = some (.string u') ∧ w'.cell? ⟨ab, ao + j * 4 + 1, none⟩ = some (.int .u64 s') ∧ w'.cell? ⟨ab, ao + j * 4 + 2, none⟩ = some (.int .i64 q')) ∧
                (w'.cell? ⟨ab, ao + (j + 1) * 4, none⟩ = some (.string u) ∧ w'.cell? ⟨ab, ao + (j + 1) * 4 + 1, none⟩ = some (.int .u64 s) ∧ w'.cell? ⟨ab, ao + (j + 1) * 4 + 2, none⟩ = some (.int .i64 q)) :=
              fun w' h => ⟨⟨(h.cell (p := ⟨ab, _, none⟩) hab).trans p0, (h.cell (p := ⟨ab, _, none⟩) hab).trans p1, (h.cell (p := ⟨ab, _, none⟩) hab).trans p2⟩,
                (h.cell (p := ⟨ab, _, none⟩) hab).trans T0.out, (h.cell (p := ⟨ab, _, none⟩) hab).trans T1.out, (h.cell (p := ⟨ab, _, none⟩) hab).trans T2.out⟩
            have HSS := Lib.hid hSS; clear hSS p0 p1 p2
            have hwj : IntKind.i64.wrap (j : Int) = (j : Int) := i64_in _ (by omega)
            have hwj2 : wrap64 (j : Int) = (j : Int) := wrap64_in _ (by omega)
            have hwk : IntKind.i64.wrap ((j : Int) + 1) = (j : Int) + 1 := i64_in _ (by omega)
            have hwk2 : wrap64 ((j : Int) + 1) = (j : Int) + 1 := wrap64_in _ (by omega)
            have hwt : ((j : Int) + 1).toNat = j + 1 := by omega
            have hji : (0 ≤ (j : Int) + 1 ∧ (j : Int) + 1 < (l.length : Int)) = True := by simp; omega
            go_wp2_with fail
            refine wp_region_held_drew (S := fun w' => Below w0.heap.size w0 w') (by kernel_rfl) HB1.out.drew (fun hHeld => ?_)
            refine wpAnyH_take (i := 0) (v := ?_) rfl (by kernel_rfl) (by kernel_rfl) (by kernel_rfl) (fun _ _ _ h => h) (Or.inl ⟨by rfl, ?_⟩) (by assumption) ?_
            rotate_left
            · (intro w hSw; obtain ⟨⟨k0, k1, k2⟩, ⟨l0, l1, l2⟩⟩ := HSS.out w hSw; go_simp; try (with_reducible rfl))
            try simp only [Act.put, List.getElem_toArray, List.getElem_cons_succ, List.getElem_cons_zero, List.setIfInBounds_toArray, List.set_cons_zero, List.set_cons_succ]
            refine wpAnyH_take (i := 1) (v := ?_) rfl (by kernel_rfl) (by kernel_rfl) (by kernel_rfl) (fun _ _ _ h => h) (Or.inl ⟨by rfl, ?_⟩) (by assumption) ?_
            rotate_left
            · (intro w hSw; obtain ⟨⟨k0, k1, k2⟩, ⟨l0, l1, l2⟩⟩ := HSS.out w hSw; go_simp; try (with_reducible rfl))
            try simp only [Act.put, List.getElem_toArray, List.getElem_cons_succ, List.getElem_cons_zero, List.setIfInBounds_toArray, List.set_cons_zero, List.set_cons_succ]
            refine wpAnyH_take (i := 2) (v := ?_) rfl (by kernel_rfl) (by kernel_rfl) (by kernel_rfl) (fun _ _ _ h => h) (Or.inl ⟨by rfl, ?_⟩) (by assumption) ?_
            rotate_left
            · (intro w hSw; obtain ⟨⟨k0, k1, k2⟩, ⟨l0, l1, l2⟩⟩ := HSS.out w hSw; go_simp; try (with_reducible rfl))
            try simp only [Act.put, List.getElem_toArray, List.getElem_cons_succ, List.getElem_cons_zero, List.setIfInBounds_toArray, List.set_cons_zero, List.set_cons_succ]
            refine wpAnyH_take (i := 3) (v := ?_) rfl (by kernel_rfl) (by kernel_rfl) (by kernel_rfl) (fun _ _ _ h => h) (Or.inl ⟨by rfl, ?_⟩) (by assumption) ?_
            rotate_left
            · (intro w hSw; obtain ⟨⟨k0, k1, k2⟩, ⟨l0, l1, l2⟩⟩ := HSS.out w hSw; go_simp; try (with_reducible rfl))
            try simp only [Act.put, List.getElem_toArray, List.getElem_cons_succ, List.getElem_cons_zero, List.setIfInBounds_toArray, List.set_cons_zero, List.set_cons_succ]
            refine wpAnyH_take (i := 4) (v := ?_) rfl (by kernel_rfl) (by kernel_rfl) (by kernel_rfl) (fun _ _ _ h => h) (Or.inl ⟨by rfl, ?_⟩) (by assumption) ?_
            rotate_left
            · (intro w hSw; obtain ⟨⟨k0, k1, k2⟩, ⟨l0, l1, l2⟩⟩ := HSS.out w hSw; go_simp; try (with_reducible rfl))
            try simp only [Act.put, List.getElem_toArray, List.getElem_cons_succ, List.getElem_cons_zero, List.setIfInBounds_toArray, List.set_cons_zero, List.set_cons_succ]
            refine wpAnyH_take (i := 5) (v := ?_) rfl (by kernel_rfl) (by kernel_rfl) (by kernel_rfl) (fun _ _ _ h => h) (Or.inl ⟨by rfl, ?_⟩) (by assumption) ?_
            rotate_left
            · (intro w hSw; obtain ⟨⟨k0, k1, k2⟩, ⟨l0, l1, l2⟩⟩ := HSS.out w hSw; go_simp; try (with_reducible rfl))
            try simp only [Act.put, List.getElem_toArray, List.getElem_cons_succ, List.getElem_cons_zero, List.setIfInBounds_toArray, List.set_cons_zero, List.set_cons_succ]
            refine wpAnyH_take (i := 6) (v := ?_) rfl (by kernel_rfl) (by kernel_rfl) (by kernel_rfl) (fun _ _ _ h => h) (Or.inl ⟨by rfl, ?_⟩) (by assumption) ?_
            rotate_left
            · (intro w hSw; obtain ⟨⟨k0, k1, k2⟩, ⟨l0, l1, l2⟩⟩ := HSS.out w hSw; go_simp; try (with_reducible rfl))
            try simp only [Act.put, List.getElem_toArray, List.getElem_cons_succ, List.getElem_cons_zero, List.setIfInBounds_toArray, List.set_cons_zero, List.set_cons_succ]
            refine wpAnyH_take (i := 7) (v := ?_) rfl (by kernel_rfl) (by kernel_rfl) (by kernel_rfl) (fun _ _ _ h => h) (Or.inl ⟨by rfl, ?_⟩) (by assumption) ?_
            rotate_left
            · (intro w hSw; obtain ⟨⟨k0, k1, k2⟩, ⟨l0, l1, l2⟩⟩ := HSS.out w hSw; go_simp; try (with_reducible rfl))
            try simp only [Act.put, List.getElem_toArray, List.getElem_cons_succ, List.getElem_cons_zero, List.setIfInBounds_toArray, List.set_cons_zero, List.set_cons_succ]
            refine wpAnyH_take (i := 8) (v := ?_) rfl (by kernel_rfl) (by kernel_rfl) (by kernel_rfl) (fun _ _ _ h => h) (Or.inl ⟨by rfl, ?_⟩) (by assumption) ?_
            rotate_left
            · (intro w hSw; obtain ⟨⟨k0, k1, k2⟩, ⟨l0, l1, l2⟩⟩ := HSS.out w hSw; go_simp; try (with_reducible rfl))
            try simp only [Act.put, List.getElem_toArray, List.getElem_cons_succ, List.getElem_cons_zero, List.setIfInBounds_toArray, List.set_cons_zero, List.set_cons_succ]
            refine wpAnyH_take (i := 9) (v := ?_) rfl (by kernel_rfl) (by kernel_rfl) (by kernel_rfl) (fun _ _ _ h => h) (Or.inl ⟨by rfl, ?_⟩) (by assumption) ?_
            rotate_left
            · (intro w hSw; obtain ⟨⟨k0, k1, k2⟩, ⟨l0, l1, l2⟩⟩ := HSS.out w hSw; go_simp; try (with_reducible rfl))
            try simp only [Act.put, List.getElem_toArray, List.getElem_cons_succ, List.getElem_cons_zero, List.setIfInBounds_toArray, List.set_cons_zero, List.set_cons_succ]
            refine wpAnyH_take (i := 10) (v := ?_) rfl (by kernel_rfl) (by kernel_rfl) (by kernel_rfl) (fun _ _ _ h => h) (Or.inl ⟨by rfl, ?_⟩) (by assumption) ?_
            rotate_left
            · (intro w hSw; obtain ⟨⟨k0, k1, k2⟩, ⟨l0, l1, l2⟩⟩ := HSS.out w hSw; go_simp; try (with_reducible rfl))
            try simp only [Act.put, List.getElem_toArray, List.getElem_cons_succ, List.getElem_cons_zero, List.setIfInBounds_toArray, List.set_cons_zero, List.set_cons_succ]
            refine wpAnyH_take (i := 11) (v := ?_) rfl (by kernel_rfl) (by kernel_rfl) (by kernel_rfl) (fun _ _ _ h => h) (Or.inl ⟨by rfl, ?_⟩) (by assumption) ?_
            rotate_left
            · (intro w hSw; obtain ⟨⟨k0, k1, k2⟩, ⟨l0, l1, l2⟩⟩ := HSS.out w hSw; go_simp; try (with_reducible rfl))
            try simp only [Act.put, List.getElem_toArray, List.getElem_cons_succ, List.getElem_cons_zero, List.setIfInBounds_toArray, List.set_cons_zero, List.set_cons_succ]
            refine wpAnyH_take (i := 12) (v := ?_) rfl (by kernel_rfl) (by kernel_rfl) (by kernel_rfl) (fun _ _ _ h => h) (Or.inl ⟨by rfl, ?_⟩) (by assumption) ?_
            rotate_left
            · (intro w hSw; obtain ⟨⟨k0, k1, k2⟩, ⟨l0, l1, l2⟩⟩ := HSS.out w hSw; go_simp; try (with_reducible rfl))
            try simp only [Act.put, List.getElem_toArray, List.getElem_cons_succ, List.getElem_cons_zero, List.setIfInBounds_toArray, List.set_cons_zero, List.set_cons_succ]
            refine wpAnyH_take (i := 13) (v := ?_) rfl (by kernel_rfl) (by kernel_rfl) (by kernel_rfl) (fun _ _ _ h => h) (Or.inl ⟨by rfl, ?_⟩) (by assumption) ?_
            rotate_left
            · (intro w hSw; obtain ⟨⟨k0, k1, k2⟩, ⟨l0, l1, l2⟩⟩ := HSS.out w hSw; go_simp; try (with_reducible rfl))
            try simp only [Act.put, List.getElem_toArray, List.getElem_cons_succ, List.getElem_cons_zero, List.setIfInBounds_toArray, List.set_cons_zero, List.set_cons_succ]
            refine wpAnyH_take (i := 14) (v := ?_) rfl (by kernel_rfl) (by kernel_rfl) (by kernel_rfl) (fun _ _ _ h => h) (Or.inl ⟨by rfl, ?_⟩) (by assumption) ?_
            rotate_left
            · (intro w hSw; obtain ⟨⟨k0, k1, k2⟩, ⟨l0, l1, l2⟩⟩ := HSS.out w hSw; go_simp; try (with_reducible rfl))
            try simp only [Act.put, List.getElem_toArray, List.getElem_cons_succ, List.getElem_cons_zero, List.setIfInBounds_toArray, List.set_cons_zero, List.set_cons_succ]
            refine wpAnyH_take (i := 15) (v := ?_) rfl (by kernel_rfl) (by kernel_rfl) (by kernel_rfl) (fun _ _ _ h => h) (Or.inl ⟨by rfl, ?_⟩) (by assumption) ?_
            rotate_left
            · (intro w hSw; obtain ⟨⟨k0, k1, k2⟩, ⟨l0, l1, l2⟩⟩ := HSS.out w hSw; go_simp; try (with_reducible rfl))
            try simp only [Act.put, List.getElem_toArray, List.getElem_cons_succ, List.getElem_cons_zero, List.setIfInBounds_toArray, List.set_cons_zero, List.set_cons_succ]
            refine wpAnyH_take (i := 16) (v := ?_) rfl (by kernel_rfl) (by kernel_rfl) (by kernel_rfl) (fun _ _ _ h => h) (Or.inl ⟨by rfl, ?_⟩) (by assumption) ?_
            rotate_left
            · (intro w hSw; obtain ⟨⟨k0, k1, k2⟩, ⟨l0, l1, l2⟩⟩ := HSS.out w hSw; go_simp; try (with_reducible rfl))
            try simp only [Act.put, List.getElem_toArray, List.getElem_cons_succ, List.getElem_cons_zero, List.setIfInBounds_toArray, List.set_cons_zero, List.set_cons_succ]
            refine wpAnyH_take (i := 17) (v := ?_) rfl (by kernel_rfl) (by kernel_rfl) (by kernel_rfl) (fun _ _ _ h => h) (Or.inl ⟨by rfl, ?_⟩) (by assumption) ?_
            rotate_left
            · (intro w hSw; obtain ⟨⟨k0, k1, k2⟩, ⟨l0, l1, l2⟩⟩ := HSS.out w hSw; go_simp; try (with_reducible rfl))
            try simp only [Act.put, List.getElem_toArray, List.getElem_cons_succ, List.getElem_cons_zero, List.setIfInBounds_toArray, List.set_cons_zero, List.set_cons_succ]
            refine wpAnyH_take (i := 18) (v := ?_) rfl (by kernel_rfl) (by kernel_rfl) (by kernel_rfl) (fun _ _ _ h => h) (Or.inl ⟨by rfl, ?_⟩) (by assumption) ?_
            rotate_left
            · (intro w hSw; obtain ⟨⟨k0, k1, k2⟩, ⟨l0, l1, l2⟩⟩ := HSS.out w hSw; go_simp; try (with_reducible rfl))
            try simp only [Act.put, List.getElem_toArray, List.getElem_cons_succ, List.getElem_cons_zero, List.setIfInBounds_toArray, List.set_cons_zero, List.set_cons_succ]
            refine wpAnyH_ready (rs := [19]) (by kernel_rfl) (by simp) ?_
            refine AllReadyH.cons rfl (fun K hK => ?_) ?_
            · go_simp
              refine (HO.out _).mono ?_
              rintro e w3 ⟨rfl, hb3⟩
              have hB3 := hHeld.trans (hb3.mono hHeld.size)
              refine hK.out _ _ hB3 (fun hHeld => ?_)
              clear hb3 hB3
              clear hK K
              try simp only [Act.put, List.getElem_toArray, List.getElem_cons_succ, List.getElem_cons_zero, List.setIfInBounds_toArray, List.set_cons_zero, List.set_cons_succ]
              refine wpAnyH_take (i := 20) (v := ?_) rfl (by kernel_rfl) (by kernel_rfl) (by kernel_rfl) (fun _ _ _ h => h) (Or.inl ⟨by rfl, ?_⟩) (by assumption) ?_
              rotate_left
              · (intro w hSw; (try dsimp only at hSw); go_simp; try (with_reducible rfl))
              try simp only [Act.put, List.getElem_toArray, List.getElem_cons_succ, List.getElem_cons_zero, List.setIfInBounds_toArray, List.set_cons_zero, List.set_cons_succ]
              refine wpAnyH_take (i := 21) (v := ?_) rfl (by kernel_rfl) (by kernel_rfl) (by kernel_rfl) (fun _ _ _ h => h) (Or.inl ⟨by rfl, ?_⟩) (by assumption) ?_
              rotate_left
              · (intro w hSw; (try dsimp only at hSw); go_simp; try (with_reducible rfl))
              try simp only [Act.put, List.getElem_toArray, List.getElem_cons_succ, List.getElem_cons_zero, List.setIfInBounds_toArray, List.set_cons_zero, List.set_cons_succ]
              refine wpAnyH_done (by kernel_rfl) ?_ _
              have HHD := Lib.hid hHeld
              by_cases ho : 0 ≤ o
              · have hd : decide (0 ≤ o) = true := by simpa using ho
                have hcn := HCN.out
                rw [if_pos ho] at hcn
                have hq : rz = ([], 1) := by rw [HZ.out, HC.out, HCD.out, hcn]; simp
                subst hq
                clear hcn
                go_wp2
                go_ret2
                exact ⟨_, rfl, HHD.out, Own.nil _ _ _ _⟩
              · have hd : decide (0 ≤ o) = false := by simp; omega
                have hcn := HCN.out
                rw [if_neg ho] at hcn
                go_wp2_with fail
                go_roundw
                case rel => exact ⟨j + 1 + 1, by omega, by go_num, HHD.out, by rw [HC.out, HCD.out, hcn]; simp [Hid]⟩
                case measure => simp [intOf]; omega
            exact AllReadyH.nil
        · have hcb : (ce == 0) = false := by simpa using hc0
          have hcb2 : (ce != 0) = true := by simpa using hc0
          have hcn := HCN.out
          rw [if_neg hc0] at hcn
          have hq : rz = ([], ce) := by rw [HZ.out, HC.out, HCD.out, hcn, if_neg hc0, if_pos hc0]
          subst hq
          clear hcn
          go_wp2_with fail
          go_quiet (fail)
          go_wp2
          go_ret2
          exact ⟨_, rfl, below_drewN HB1.out _, Own.nil _ _ _ _⟩
      · have hce := HCE.out
        rw [if_neg hck] at hce
        subst hce
        have hcb : (ce == 0) = false := by simpa using hck
        have hcb2 : (ce != 0) = true := by simpa using hck
        have hcn := HCN.out
        rw [if_neg hck] at hcn
        have hq : rz = ([], ce) := by rw [HZ.out, HC.out, HCD.out, hcn, if_neg hck, if_pos hck]
        subst hq
        clear hcn
        go_wp2_with fail
        go_quiet (fail)
        go_wp2
        go_ret2
        exact ⟨_, rfl, below_drewN HB1.out _, Own.nil _ _ _ _⟩
    · obtain rfl : k = l.length := by omega
      have hc0 : chkB how none l = 0 := by rw [HC.out, List.drop_length]; rfl
      have hz := HZ.out
      rw [hc0, if_neg (by simp)] at hz
      have hws := HW.out (chkB_all how l none hc0) _ (hr.keep HB.out |>.more HB.out.size)
      have HWS := Lib.hid hws; clear hws
      clear hc0 HZ HC
      generalize endL (wst R' l) = el at *
      have HZ2 := Lib.hid hz; clear hz
      go_wp2_with fail
      refine HWS.out.mono ?_
      rintro e w1 ⟨v, rfl, hb1, hv⟩
      obtain ⟨vA, vc, rfl, -⟩ := hv.rd
      have HB1 := Lib.hid (HB.out.trans (hb1.mono HB.out.size))
      have HV := Lib.hid (hv.base_le HB.out.size)
      clear hb1 hv
      by_cases hbig : 4194304 < el.length
      · have hd : decide ((4194304 : Int) < (el.length : Int)) = true := by simp; omega
        go_wp2_with fail
        go_ret2
        have hz := HZ2.out
        rw [if_pos hbig] at hz
        rw [hz]
        exact ⟨_, rfl, HB1.out, Own.nil _ _ _ _⟩
      · have hd : decide ((4194304 : Int) < (el.length : Int)) = false := by simp; omega
        go_wp2_with fail
        go_ret2
        have hz := HZ2.out
        rw [if_neg hbig] at hz
        rw [hz]
        exact ⟨_, rfl, HB1.out, HV.out⟩
end Go.Proofs.Ytkajgpcnodgpcaa
