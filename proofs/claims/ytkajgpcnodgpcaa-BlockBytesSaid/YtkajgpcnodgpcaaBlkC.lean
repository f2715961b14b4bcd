/-
  Entries as bytes: the document's writer.
-/
import Derived.Test.YtkajgpcnodgpcaaBlkB
namespace Go.Proofs.Ytkajgpcnodgpcaa
set_option linter.unusedSimpArgs false
set_option linter.unusedVariables false
open Go.RowKit Go.IntWalk

structure E where
  k : K
  v : ByteArray
def entC (e : E) : List Value := [.string e.k.u, .int .u64 e.k.s, .int .i64 e.k.k, .string e.v]
def entsC (l : List E) : List Value := l.flatMap entC
theorem entsC_len (l : List E) : (entsC l).length = l.length * 4 := by
  unfold entsC
  induction l with
  | nil => rfl
  | cons e l ih => rw [List.flatMap_cons, List.length_append, ih, List.length_cons]; show 4 + _ = _; omega
theorem entsC_at (l : List E) : ∀ (k j : Nat) (hk : k < l.length), j < 4 → (entsC l)[k * 4 + j]? = (entC (l[k]'hk))[j]? := by
  induction l with
  | nil => intro k j hk; simp at hk
  | cons e l ih =>
    intro k j hk hj
    unfold entsC
    rw [List.flatMap_cons]
    rcases k with _ | k
    · rw [List.getElem?_append_left (by show 0 * 4 + j < 4; omega)]
      simp
    · rw [List.getElem?_append_right (by show 4 ≤ (k + 1) * 4 + j; omega)]
      have h4 : (entC e).length = 4 := rfl
      rw [h4, show (k + 1) * 4 + j - 4 = k * 4 + j by omega]
      have := ih k j (by simpa using hk) hj
      unfold entsC at this
      rw [this]
      simp
/-- entry k of a list that reads as l: its four cells -/
theorem ent_at {w : World} {B : Nat} {A : Option Addr} {l : List E} (h : Rd w B A (entsC l)) {k : Nat} (hk : k < l.length) :
    ∃ b off, A = some ⟨b, off, none⟩ ∧ b < B ∧ w.cell? ⟨b, off + k * 4, none⟩ = some (.string (l[k]'hk).k.u) ∧ w.cell? ⟨b, off + k * 4 + 1, none⟩ = some (.int .u64 (l[k]'hk).k.s) ∧
      w.cell? ⟨b, off + k * 4 + 2, none⟩ = some (.int .i64 (l[k]'hk).k.k) ∧ w.cell? ⟨b, off + k * 4 + 3, none⟩ = some (.string (l[k]'hk).v) := by
  rcases h with h | ⟨b, off, rfl, hb, hc⟩
  · have := entsC_len l
    rw [h] at this; simp at this; omega
  · refine ⟨b, off, rfl, hb, ?_, ?_, ?_, ?_⟩
    · exact hc (k * 4 + 0) _ (entsC_at l k 0 hk (by omega))
    · exact hc (k * 4 + 1) _ (entsC_at l k 1 hk (by omega))
    · exact hc (k * 4 + 2) _ (entsC_at l k 2 hk (by omega))
    · exact hc (k * 4 + 3) _ (entsC_at l k 3 hk (by omega))

theorem rvalue_any (v : ByteArray) (w : World) :
    Calls Try.prog 31 #[.string v] w fun e w' => e = .returned (.int .i64 (if 16384 < v.size then 2 else 0)) ∧ w' = w := by
  go_enter Try.func31, Try.ntmps31
  by_cases h : 16384 < v.size
  · have hd : decide ((16384 : Int) < (v.size : Int)) = true := by simp; omega
    rw [if_pos h]
    go_wp2
    go_ret
    exact ⟨rfl, rfl⟩
  · have hd : decide ((16384 : Int) < (v.size : Int)) = false := by simp; omega
    rw [if_neg h]
    go_wp2
    go_ret
    exact ⟨rfl, rfl⟩
/-- what is wrong with an entry by itself -/
def chkE (e : E) : Int := if chkK e.k = 0 then (if 16384 < e.v.size then 2 else 0) else chkK e.k
theorem chkE_ok {e : E} (h : chkE e = 0) : chkK e.k = 0 ∧ e.v.size ≤ 16384 := by
  unfold chkE at h
  split at h
  · rename_i h1
    refine ⟨h1, ?_⟩
    split at h
    · simp at h
    · omega
  · rename_i h1; exact absurd h h1
theorem encL_ok {a : K} (h : chkK a = 0) : (encL a).length = a.u.size + 8 := by
  unfold encL encB
  rw [if_pos h, List.length_append, leB_len, Array.length_toList]
  rfl
/-- what is wrong with entries, from the first on (Size) -/
def chkS : List E → Int
  | [] => 0
  | e :: l => if chkE e = 0 then chkS l else chkE e
structure Wst where
  n : Nat
  last : List UInt8
  b : List UInt8
  ws : List Nat
def addL (R : Nat) (st : Wst) (e : E) : Wst := ⟨st.n + 1, encL e.k, st.b ++ entL (encL e.k) e.v (if st.n % R = 0 then 0 else comL st.last (encL e.k)), if st.n % R = 0 then st.ws ++ [st.b.length] else st.ws⟩
def wst (R : Nat) (l : List E) : Wst := l.foldl (addL R) ⟨0, [], [], []⟩
theorem wst_snoc (R : Nat) (l : List E) (e : E) : wst R (l ++ [e]) = addL R (wst R l) e := by unfold wst; rw [List.foldl_append]; rfl
def places (st : Wst) : List Nat := if st.ws = [] then [0] else st.ws
def endL (st : Wst) : List UInt8 := st.b ++ ((places st).flatMap (fun n => leB n 4) ++ leB (places st).length 4)
def nb (a b : Option Nat) : Prop := a = none ∨ a ≠ b
def intV (n : Nat) : Value := .int .i64 n
theorem info_int : (Try.prog.info? 3).map (fun i => (i.zero, i.size, i.bytes)) = some (some (.int .i64 0), 1, 8) := by kernel_rfl

theorem nb_symm {a b : Option Nat} (h : nb a b) : b = none ∨ b ≠ a := by
  rcases h with h | h
  · rcases b with _ | b
    · exact .inl rfl
    · rw [h]; exact .inr (by simp)
  · exact .inr (Ne.symm h)
theorem entL_len (kl : List UInt8) (v : ByteArray) (n : Nat) (hn : n ≤ kl.length) : (entL kl v n).length ≤ 4 * kl.length + 2 * v.size + 3 := by
  unfold entL
  have h1 := varB_len n
  have h2 := varB_len (kl.length - n)
  have h3 := varB_len v.size
  have h4 : v.data.toList.length = v.size := Array.length_toList
  simp only [List.length_append, List.length_drop, h4]
  omega
theorem flat_len (ps : List Nat) (j : Nat) (h : j ≤ ps.length) : ((ps.take j).flatMap fun n => leB n 4).length = 4 * j := by
  rw [List.length_flatMap]
  have : (ps.take j).map (fun n => (leB n 4).length) = List.replicate j 4 := by
    apply List.ext_getElem
    · simp; omega
    · intro k h1 h2; simp [leB_len]
  rw [this, List.sum_replicate_nat]
  omega
theorem flat_snoc (ps : List Nat) (j : Nat) (h : j < ps.length) : ((ps.take (j + 1)).flatMap fun n => leB n 4) = ((ps.take j).flatMap fun n => leB n 4) ++ leB (ps[j]) 4 := by
  rw [List.take_succ_eq_append_getElem h, List.flatMap_append]
  simp
theorem place_at {w : World} {B : Nat} {A : Option Addr} {ps : List Nat} (h : Rd w B A (ps.map intV)) {j : Nat} (hj : j < ps.length) :
    ∃ b off, A = some ⟨b, off, none⟩ ∧ b < B ∧ w.cell? ⟨b, off + j, none⟩ = some (.int .i64 ((ps[j]'hj : Nat) : Int)) := by
  rcases h with h | ⟨b, off, rfl, hb, hc⟩
  · have : ps = [] := by simpa using h
    subst this; simp at hj
  · exact ⟨b, off, rfl, hb, hc j _ (by simp [hj, intV])⟩
def WInv (wr : World) (base : Nat) (st : Wst) (lv bv pv : Value) : Prop :=
  Own wr base 5 1 bv st.b.length (st.b.map byteV) ∧ Own wr base 3 1 pv st.ws.length (st.ws.map intV) ∧ nb bv.ownBlock pv.ownBlock ∧
    ∃ A c, lv = .slice A st.last.length c ∧ st.last.length ≤ c ∧ Bs wr wr.heap.size A st.last
def WBd (st : Wst) (k : Nat) : Prop := st.n = k ∧ st.b.length ≤ k * 40000 ∧ st.ws.length ≤ k ∧ st.last.length ≤ 2000 ∧ ∀ x ∈ st.ws, x ≤ k * 40000
set_option maxHeartbeats 2000000 in
set_option maxRecDepth 100000 in
theorem rwritten_any (R : Nat) (l : List E) (A : Option Addr) (cap : Nat) (w : World) (hR : 0 < R) (hR2 : R ≤ 1024) (hlen : l.length ≤ 65536) (hok : ∀ e ∈ l, chkE e = 0) (hs : ∀ e ∈ l, 0 ≤ e.k.s)
    (hr : Rd w w.heap.size A (entsC l)) :
    Calls Try.prog 33 #[.int .i64 R, .slice A l.length cap] w fun e w' => ∃ v, e = .returned v ∧ Below w.heap.size w w' ∧ Own w' w.heap.size 5 1 v (endL (wst R l)).length ((endL (wst R l)).map byteV) := by
  obtain ⟨i0, hi, hz0, hz1, hz2⟩ := info_parts info_byte
  obtain ⟨i1, hj, hy0, hy1, hy2⟩ := info_parts info_int
  obtain ⟨res, hres⟩ : ∃ res, endL (wst R l) = res := ⟨_, rfl⟩
  rw [hres]
  have HRES := Lib.hid hres; clear hres
  go_enter Try.func33, Try.ntmps33
  go_wp2_with fail
  go_loopw [5, 6, 7, 8, 9, 10, 11] (fun s5 s6 s7 s8 _ _ _ wr => ∃ (k : Nat) (bv lv pv : Value), k ≤ l.length ∧ s8 = .int .i64 k ∧ bv = s5 ∧ lv = s6 ∧ pv = s7 ∧ Hid (Below w.heap.size w wr) ∧ Hid (WInv wr w.heap.size (wst R (l.take k)) lv bv pv) ∧ Hid (WBd (wst R (l.take k)) k)) (fun _ _ _ s8 _ _ _ _ => l.length - (intOf s8).toNat)
  case atStart => exact ⟨0, _, _, _, Nat.zero_le _, rfl, rfl, rfl, rfl, Below.refl _ _, ⟨Own.nil _ _ _ _, Own.nil _ _ _ _, .inl rfl, _, _, rfl, Nat.le_refl _, Rd.nil⟩, ⟨rfl, Nat.le_refl _, Nat.le_refl _, Nat.zero_le _, fun _ h => by cases h⟩⟩
  case round =>
    obtain ⟨k, bv, lv, pv, hk, rfl, rfl, rfl, rfl, HB, HI, HD⟩ := hrel
    by_cases hlt : k < l.length
    · obtain ⟨ab, ao, rfl, hab, t0, t1, t2, t3⟩ := ent_at hr hlt
      have hst : wst R (l.take (k + 1)) = addL R (wst R (l.take k)) l[k] := by rw [List.take_succ_eq_append_getElem hlt, wst_snoc]
      have hoke := hok l[k] (List.getElem_mem hlt)
      have hse := hs l[k] (List.getElem_mem hlt)
      have HST := Lib.hid hst; clear hst
      generalize wst R (l.take k) = st at *
      generalize l[k] = ee at *
      obtain ⟨⟨u, s, q⟩, v⟩ := ee
      obtain ⟨hn, hbl, hwl, hll, hwx⟩ := HD.out
      obtain ⟨hob, hop, hnb, lA, lc, rfl, hlc, hlr⟩ := HI.out
      obtain ⟨bA, bc, rfl, -⟩ := hob.rd
      have hE := fun w => rEncode_any ⟨u, s, q⟩ w hse
      simp only [keyV] at hE
      dsimp only at t0 t1 t2 t3
      have d0 := (HB.out.cell (p := ⟨ab, ao + k * 4, none⟩) hab).trans t0
      have d1 := (HB.out.cell (p := ⟨ab, ao + k * 4 + 1, none⟩) hab).trans t1
      have d2 := (HB.out.cell (p := ⟨ab, ao + k * 4 + 2, none⟩) hab).trans t2
      have T3 := Lib.hid t3
      clear t0 t1 t2 t3
      have HE := Lib.hid hE; clear hE
      have HOB := Lib.hid hob
      have HOP := Lib.hid hop
      have HNB := Lib.hid hnb
      have HLR := Lib.hid hlr
      clear hob hop hnb hlr HI HD
      go_wp2_with fail
      refine (HE.out _).mono ?_
      rintro e w1 ⟨kv, rfl, hb1, hkv⟩
      obtain ⟨hck, hvs⟩ := chkE_ok hoke
      have hbd := chk_bounds hck hse
      dsimp only at hbd hvs
      have hel := encL_ok hck
      dsimp only at hel
      rw [hck]
      have hadd : addL R st ⟨⟨u, s, q⟩, v⟩ = ⟨st.n + 1, encL ⟨u, s, q⟩, st.b ++ entL (encL ⟨u, s, q⟩) v (if st.n % R = 0 then 0 else comL st.last (encL ⟨u, s, q⟩)), if st.n % R = 0 then st.ws ++ [st.b.length] else st.ws⟩ := rfl
      rw [hadd] at HST
      clear hadd hoke hck HE
      generalize encL ⟨u, s, q⟩ = kl at *
      have hkl : 8 ≤ kl.length ∧ kl.length ≤ 1032 := by omega
      clear hel hbd
      obtain ⟨kA, kc, rfl, hkc, -, hkr⟩ := hkv.rd
      obtain ⟨kg, kc', hke, hkg, hkg2⟩ := hkv.form (by omega)
      injection hke with hke1 hke2 hke3
      subst hke1
      clear hke2 hke3 kc' hkv
      have hcm := comL_le st.last kl
      have hsz1 := hb1.size
      have hlr1 := HLR.out.keep hb1
      have HOB1 := Lib.hid (HOB.out.keep hb1 (Nat.le_refl _))
      have HOP1 := Lib.hid (HOP.out.keep hb1 (Nat.le_refl _))
      have hbne : some kg ≠ (Value.slice bA st.b.length bc).ownBlock := fun h => by have := (HOB.out.lt kg h.symm).2; omega
      have hpne : some kg ≠ pv.ownBlock := fun h => by have := (HOP.out.lt kg h.symm).2; omega
      have HB1 := Lib.hid (HB.out.trans (hb1.mono HB.out.size))
      have HN1 := Lib.hid hbne
      have HN2 := Lib.hid hpne
      have hcom := rcommon_any lA (some ⟨kg, 0, none⟩) lc kc wr.heap.size w1.heap.size st.last kl w1 (by omega) (by omega) hlr1 hkr hsz1 (Nat.le_refl _)
      have HCOM := Lib.hid hcom; clear hcom
      have HKR := Lib.hid hkr
      clear hkr hlr1 hb1 hbne hpne HOB HOP HLR HB
      go_wp2_with fail
      refine HCOM.out.mono ?_
      rintro e w2 ⟨rfl, hb2⟩
      have hsz2 := hb2.size
      have HOB2 := Lib.hid (HOB1.out.keep hb2 (Nat.le_refl _))
      have HOP2 := Lib.hid (HOP1.out.keep hb2 (Nat.le_refl _))
      have HKR2 := Lib.hid (HKR.out.next hb2)
      have HB2 := Lib.hid (HB1.out.trans (hb2.mono HB1.out.size))
      clear hb2 HOB1 HOP1 HKR HB1 HCOM
      generalize comL st.last kl = m at *
      have hg3 : kg < w2.heap.size := by omega
      have hwz := HB2.out.size
      rw [hn] at HST
      by_cases hm : k % R = 0
      · rw [if_pos hm, if_pos hm] at HST
        have hmz : (k : Int) % (R : Int) = 0 := by exact_mod_cast hm
        clear hm
        have HOA := Lib.hid (HOP2.out.alloc (.cells #[.int .i64 (st.b.length : Nat)] 3))
        have hb3 : Below w.heap.size w (w2.alloc (.cells #[.int .i64 (st.b.length : Nat)] 3)) := HB2.out.alloc HB2.out.size _
        have HBA := Lib.hid hb3; clear hb3
        go_wp2_with (at_builtin; go_loud (refine wpList_append _ rfl _ _ 61 61 rfl w.heap.size 3 i1 (.int .i64 0) 1 8 Try.underlying61 hj hy0 hy1 hy2 rfl (by decide) _ _ _ rfl HOA.out _ 1 [.int .i64 (st.b.length : Nat)] rfl (Src.slice _ Try.underlying61 rfl (Rd.new _ _ _)) ?c1 ?c2 ?c3 ?c4 ?_; (case c1 => simp [Value.oneCell']); (case c2 => (unfold maxLen; omega)); (case c3 => omega); (case c4 => (simp; omega)); intro pv3 w3 hO3 hG3 hl3; have hB3 : Below w.heap.size w w3 := HBA.out.grown hG3 (by simp; omega) (fun g hg => (HOP2.out.lt g hg).1); have e3 := (hB3.cell (p := ⟨ab, ao + k * 4 + 3, none⟩) hab).trans T3.out; have HB3 := Lib.hid hB3; clear hB3))
        have hG3' : (w2.alloc (.cells #[.int .i64 (st.b.length : Nat)] 3)).grownBy w3 pv.ownBlock := hG3
        have hl3' : pv3.ownBlock = pv.ownBlock ∨ pv3.ownBlock = some (w2.heap.size + 1) := by have h := hl3; simp at h; exact h
        have hsz3 := hG3'.size
        simp at hsz3
        have hnb3 : nb (Value.slice bA st.b.length bc).ownBlock pv3.ownBlock := by
          rcases hl3' with h | h
          · rw [h]; exact HNB.out
          · rw [h]; exact .inr fun h2 => by have := (HOB2.out.lt _ h2).2; omega
        have HNB3 := Lib.hid hnb3; clear hnb3
        have hob3 : Own w3 w.heap.size 5 1 (.slice bA st.b.length bc) st.b.length (st.b.map byteV) := (HOB2.out.alloc _).kept hG3' HNB.out
        have HOB3 := Lib.hid hob3; clear hob3
        have HOP3 := Lib.hid hO3; clear hO3
        have hkr3 : Bs w3 w2.heap.size (some ⟨kg, 0, none⟩) kl := (HKR2.out.keep ((Below.refl _ w2).alloc (Nat.le_refl _) _)).grown hG3' (by simp) (fun a ha => by injection ha with ha; rw [← ha]; exact HN2.out)
        have HKR3 := Lib.hid (hkr3.more (show w2.heap.size ≤ w3.heap.size by omega)); clear hkr3
        clear hG3 hl3 hG3' hl3' HOA HBA HOP2 HOB2 HKR2
        have hent := rentry_any (.slice bA st.b.length bc) st.b kl kg 0 kc v 0 w.heap.size w3 HOB3.out HB3.out.size HKR3.out HN1.out (by omega) hkc (by omega) (by omega) (by omega)
        have hle4 := entL_len kl v 0 (by omega)
        refine hent.mono ?_
        rintro e w4 ⟨bv4, rfl, hO4, hG4, hF4⟩
        have hB4 : Below w.heap.size w w4 := HB3.out.grown hG4 HB3.out.size (fun g hg => (HOB3.out.lt g hg).1)
        have hop4 := HOP3.out.kept hG4 (nb_symm HNB3.out)
        have hnb4 : nb bv4.ownBlock (pv3).ownBlock := by
          rcases hF4 with h | h
          · rw [h]; exact HNB3.out
          · rcases hb : bv4.ownBlock with _ | g
            · exact .inl rfl
            · exact .inr fun h2 => by have := (HOP3.out.lt g h2.symm).2; have := h g hb; omega
        have hkr4 : Bs w4 w4.heap.size (some ⟨kg, 0, none⟩) kl := (HKR3.out.grown hG4 (Nat.le_refl _) (fun a ha => by injection ha with ha; rw [← ha]; exact HN1.out)).more hG4.size
        have HB4 := Lib.hid hB4
        have HOP4 := Lib.hid hop4
        have HNB4 := Lib.hid hnb4
        have HKR4 := Lib.hid hkr4
        have HO4 := Lib.hid hO4
        clear hB4 hop4 hnb4 hkr4 hO4 hG4 hF4 hent
        go_wp2_with fail
        go_roundw
        case rel => exact ⟨k + 1, bv4, _, pv3, by omega, by go_num, rfl, rfl, rfl, HB4.out, by rw [HST.out]; exact ⟨HO4.out, by simpa [intV] using HOP4.out, HNB4.out, _, _, rfl, hkc, HKR4.out⟩, by rw [HST.out]; exact ⟨rfl, by have := hle4; show (st.b ++ entL kl v 0).length ≤ _; rw [List.length_append]; omega, by show (st.ws ++ [st.b.length]).length ≤ _; rw [List.length_append]; simp; omega, by show kl.length ≤ _; omega, fun x hx => by (rcases List.mem_append.1 hx with h | h); (have := hwx x h; omega); (rw [List.mem_singleton] at h; omega)⟩⟩
        case measure => simp [intOf]; omega
      · rw [if_neg hm, if_neg hm] at HST
        have hmz : (((k : Int) % (R : Int)) == 0) = false := by rw [beq_eq_false_iff_ne]; exact fun h => hm (by exact_mod_cast h)
        have hent := rentry_any (.slice bA st.b.length bc) st.b kl kg 0 kc v m w.heap.size w2 HOB2.out HB2.out.size HKR2.out HN1.out (by omega) hkc (by omega) (by omega) (by omega)
        have e3 := (HB2.out.cell (p := ⟨ab, ao + k * 4 + 3, none⟩) hab).trans T3.out
        have HNB2 := HNB
        clear hm
        have HENT := Lib.hid hent; clear hent
        go_wp2_with fail
        have hent := HENT.out
        have hle4 := entL_len kl v m (by omega)
        refine hent.mono ?_
        rintro e w4 ⟨bv4, rfl, hO4, hG4, hF4⟩
        have hB4 : Below w.heap.size w w4 := HB2.out.grown hG4 HB2.out.size (fun g hg => (HOB2.out.lt g hg).1)
        have hop4 := HOP2.out.kept hG4 (nb_symm HNB2.out)
        have hnb4 : nb bv4.ownBlock (pv).ownBlock := by
          rcases hF4 with h | h
          · rw [h]; exact HNB2.out
          · rcases hb : bv4.ownBlock with _ | g
            · exact .inl rfl
            · exact .inr fun h2 => by have := (HOP2.out.lt g h2.symm).2; have := h g hb; omega
        have hkr4 : Bs w4 w4.heap.size (some ⟨kg, 0, none⟩) kl := (HKR2.out.grown hG4 (Nat.le_refl _) (fun a ha => by injection ha with ha; rw [← ha]; exact HN1.out)).more hG4.size
        have HB4 := Lib.hid hB4
        have HOP4 := Lib.hid hop4
        have HNB4 := Lib.hid hnb4
        have HKR4 := Lib.hid hkr4
        have HO4 := Lib.hid hO4
        clear hB4 hop4 hnb4 hkr4 hO4 hG4 hF4 hent
        go_wp2_with fail
        go_roundw
        case rel => exact ⟨k + 1, bv4, _, pv, by omega, by go_num, rfl, rfl, rfl, HB4.out, by rw [HST.out]; exact ⟨HO4.out, HOP4.out, HNB4.out, _, _, rfl, hkc, HKR4.out⟩, by rw [HST.out]; exact ⟨rfl, by have := hle4; show (st.b ++ entL kl v m).length ≤ _; rw [List.length_append]; omega, by show st.ws.length ≤ _; omega, by show kl.length ≤ _; omega, fun x hx => by have := hwx x hx; omega⟩⟩
        case measure => simp [intOf]; omega
    · obtain rfl : k = l.length := by omega
      rw [List.take_length] at HI HD
      generalize wst R l = st at *
      obtain ⟨hn, hbl, hwl, hll, hwx⟩ := HD.out
      obtain ⟨hob, hop, hnb, lA, lc, rfl, hlc, hlr⟩ := HI.out
      obtain ⟨bA, bc, rfl, -⟩ := hob.rd
      obtain ⟨pA, pc, rfl, -⟩ := hop.rd
      have HOB := Lib.hid hob
      have HOP := Lib.hid hop
      have HNB := Lib.hid hnb
      clear hob hop hnb hlr HI HD
      by_cases hws : st.ws = []
      · have hp : places st = [0] := by unfold places; rw [if_pos hws]
        have hw0 : ((st.ws.length : Int) == 0) = true := by rw [hws]; rfl
        go_wp2_with fail
        have HO0 := Lib.hid (HOB.out.alloc (.cells #[.int .i64 0] 3))
        have HB0 := Lib.hid (HB.out.alloc HB.out.size (.cells #[.int .i64 0] 3))
        have HP0 : Hid (Rd (wr.alloc (.cells #[.int .i64 0] 3)) (wr.alloc (.cells #[.int .i64 0] 3)).heap.size (some ⟨wr.heap.size, 0, none⟩) ((places st).map intV)) := by rw [hp, World.size_alloc]; exact Rd.new wr #[.int .i64 0] 3
        have HN0 : Hid (∀ a : Addr, (some ⟨wr.heap.size, 0, none⟩ : Option Addr) = some a → some a.block ≠ (Value.slice bA st.b.length bc).ownBlock) := fun a ha h => by injection ha with ha; rw [← ha] at h; have := (HOB.out.lt _ h.symm).2; simp at this
        have hpl : (places st).length = 1 := by rw [hp]; rfl
        have hpx : ∀ x ∈ places st, x ≤ 3000000000 := by rw [hp]; intro x hx; rw [List.mem_singleton] at hx; omega
        have hpc : (places st).length ≤ 70000 := by omega
        generalize wr.alloc (.cells #[.int .i64 0] 3) = W0 at HO0 HB0 HP0 ⊢
        clear hws hw0 hwx
        have hend : st.b ++ ((places st).flatMap (fun n => leB n 4) ++ leB (places st).length 4) = res := HRES.out
        have HEND := Lib.hid hend; clear hend
        clear hp HRES
        generalize places st = ps at *
        rw [← hpl] at *
        go_loopw [5, 12] (fun s5 s12 w5 => ∃ (j : Nat) (bv : Value) (bl : List UInt8), j ≤ ps.length ∧ s12 = .int .i64 j ∧ bv = s5 ∧ Hid (Below w.heap.size w w5) ∧ Hid (Own w5 w.heap.size 5 1 bv bl.length (bl.map byteV)) ∧ Hid (Rd w5 w5.heap.size (some ⟨wr.heap.size, 0, none⟩) (ps.map intV)) ∧ Hid (∀ a : Addr, (some ⟨wr.heap.size, 0, none⟩) = some a → some a.block ≠ bv.ownBlock) ∧ Hid (bl = st.b ++ (ps.take j).flatMap fun n => leB n 4)) (fun _ s12 _ => ps.length - (intOf s12).toNat)
        case atStart => exact ⟨0, _, st.b, Nat.zero_le _, rfl, rfl, HB0.out, HO0.out, HP0.out, HN0.out, by simp [Hid]⟩
        case round =>
          clear HB0 HO0 HP0 HN0 HNB HOP HOB
          obtain ⟨j, bv, bl, hj, rfl, rfl, HB5, HO5, HP5, HN5, HL5⟩ := hrel
          have hbl5 : bl.length = st.b.length + 4 * j := by rw [HL5.out, List.length_append, flat_len ps j hj]
          by_cases hjl : j < ps.length
          · obtain ⟨pb, po, hpe, hpb, hpc5⟩ := place_at HP5.out hjl
            have hx := hpx ps[j] (List.getElem_mem hjl)
            have hsn := flat_snoc ps j hjl
            have HSN := Lib.hid hsn; clear hsn
            generalize ps[j] = x at *
            have hF := fun w => rFixed_any x 4 w (by omega) (by omega)
            have HF := Lib.hid hF; clear hF
            clear hpx
            (injection hpe with hpe; injection hpe with he1 he2; subst he1 he2; rw [Nat.zero_add] at hpc5)
            go_wp2_with fail
            refine (HF.out _).mono ?_
            rintro e w6 ⟨fv, rfl, hb6, hf6⟩
            obtain ⟨fA, fc, rfl, -, -, hf7⟩ := hf6.rd
            have hs6 := hb6.size
            have HO6 := Lib.hid (HO5.out.keep hb6 (Nat.le_refl _))
            have HB6 := Lib.hid (HB5.out.trans (hb6.mono HB5.out.size))
            have HP6 := Lib.hid (HP5.out.next hb6)
            have hw6 := HB6.out.size
            clear hb6 hf6
            go_wp2_with (at_builtin; (refine wpList_append _ rfl _ _ 23 23 rfl w.heap.size 5 i0 (.int .u8 0) 1 1 Try.underlying23 hi hz0 hz1 hz2 rfl (by decide) _ _ _ rfl HO6.out _ 4 _ rfl (Src.slice _ Try.underlying23 (by rw [List.length_map, leB_len]) hf7) ?c1 ?c2 ?c3 ?c4 ?_; (case c1 => (intro u hu; obtain ⟨x, _, rfl⟩ := List.mem_map.1 hu; rfl)); (case c2 => (unfold maxLen; omega)); (case c3 => omega); (case c4 => omega); intro v7 w7 hO7 hG7 hl7))
            have HBL := Lib.hid hbl5
            clear hbl5
            go_roundw
            case rel =>
              refine ⟨j + 1, v7, bl ++ leB x 4, by omega, by go_num, rfl, HB6.out.grown hG7 hw6 (fun g hg => (HO6.out.lt g hg).1), ?_, HP6.out.grown hG7 (Nat.le_refl _) HN5.out |>.more hG7.size, ?_, ?_⟩
              · rw [Hid, List.map_append, List.length_append, leB_len]; exact hO7
              · intro a ha h
                rcases (show v7.ownBlock = bv.ownBlock ∨ v7.ownBlock = some w6.heap.size from hl7) with h2 | h2
                · exact HN5.out a ha (h.trans h2)
                · rw [h2] at h
                  injection h with h
                  rcases HP6.out with h3 | ⟨b3, o3, h4, h5, _⟩
                  · have : ps = [] := by simpa using h3
                    subst this; simp at hjl
                  · rw [ha] at h4; injection h4 with h4; rw [h4] at h; dsimp only at h; omega
              · rw [Hid, HSN.out, HL5.out, List.append_assoc]
            case measure => simp [intOf]; omega
          · obtain rfl : j = ps.length := by omega
            have hF := fun w => rFixed_any ps.length 4 w (by omega) (by omega)
            have HF := Lib.hid hF; clear hF
            clear hpx
            go_wp2_with fail
            refine (HF.out _).mono ?_
            rintro e w6 ⟨fv, rfl, hb6, hf6⟩
            obtain ⟨fA, fc, rfl, -, -, hf7⟩ := hf6.rd
            have hs6 := hb6.size
            have HO6 := Lib.hid (HO5.out.keep hb6 (Nat.le_refl _))
            have HB6 := Lib.hid (HB5.out.trans (hb6.mono HB5.out.size))
            have hw6 := HB6.out.size
            clear hb6 hf6
            go_wp2_with (at_builtin; (refine wpList_append _ rfl _ _ 23 23 rfl w.heap.size 5 i0 (.int .u8 0) 1 1 Try.underlying23 hi hz0 hz1 hz2 rfl (by decide) _ _ _ rfl HO6.out _ 4 _ rfl (Src.slice _ Try.underlying23 (by rw [List.length_map, leB_len]) hf7) ?c1 ?c2 ?c3 ?c4 ?_; (case c1 => (intro u hu; obtain ⟨x, _, rfl⟩ := List.mem_map.1 hu; rfl)); (case c2 => (unfold maxLen; omega)); (case c3 => omega); (case c4 => omega); intro v7 w7 hO7 hG7 hl7))
            go_ret
            have hfin : bl ++ leB ps.length 4 = res := by rw [← HEND.out, HL5.out, List.take_length, List.append_assoc]
            have hO8 : Own w7 w.heap.size 5 1 v7 (bl ++ leB ps.length 4).length ((bl ++ leB ps.length 4).map byteV) := by rw [List.map_append, List.length_append, leB_len]; exact hO7
            rw [hfin] at hO8
            exact ⟨v7, rfl, HB6.out.grown hG7 hw6 (fun g hg => (HO6.out.lt g hg).1), hO8⟩
      · have hp : places st = st.ws := by unfold places; rw [if_neg hws]
        have hw0 : ((st.ws.length : Int) == 0) = false := by rw [beq_eq_false_iff_ne]; intro h; exact hws (List.eq_nil_of_length_eq_zero (by omega))
        go_wp2_with fail
        have HO0 := HOB
        have HB0 := HB
        have HP0 : Hid (Rd wr wr.heap.size pA ((places st).map intV)) := by rw [hp]; exact HOP.out.rd'
        have HN0 : Hid (∀ a : Addr, pA = some a → some a.block ≠ (Value.slice bA st.b.length bc).ownBlock) := fun a ha h => by
          subst ha
          rcases HNB.out with h2 | h2
          · rw [h2] at h; cases h
          · exact h2 h.symm
        have hpl : (places st).length = st.ws.length := by rw [hp]
        have hpx : ∀ x ∈ places st, x ≤ 3000000000 := by rw [hp]; intro x hx; have := hwx x hx; omega
        have hpc : (places st).length ≤ 70000 := by omega
        clear hws hw0 hwx hwl
        have hend : st.b ++ ((places st).flatMap (fun n => leB n 4) ++ leB (places st).length 4) = res := HRES.out
        have HEND := Lib.hid hend; clear hend
        clear hp HRES
        generalize places st = ps at *
        rw [← hpl] at *
        go_loopw [5, 12] (fun s5 s12 w5 => ∃ (j : Nat) (bv : Value) (bl : List UInt8), j ≤ ps.length ∧ s12 = .int .i64 j ∧ bv = s5 ∧ Hid (Below w.heap.size w w5) ∧ Hid (Own w5 w.heap.size 5 1 bv bl.length (bl.map byteV)) ∧ Hid (Rd w5 w5.heap.size pA (ps.map intV)) ∧ Hid (∀ a : Addr, pA = some a → some a.block ≠ bv.ownBlock) ∧ Hid (bl = st.b ++ (ps.take j).flatMap fun n => leB n 4)) (fun _ s12 _ => ps.length - (intOf s12).toNat)
        case atStart => exact ⟨0, _, st.b, Nat.zero_le _, rfl, rfl, HB0.out, HO0.out, HP0.out, HN0.out, by simp [Hid]⟩
        case round =>
          clear HB0 HO0 HP0 HN0 HNB HOP HOB
          obtain ⟨j, bv, bl, hj, rfl, rfl, HB5, HO5, HP5, HN5, HL5⟩ := hrel
          have hbl5 : bl.length = st.b.length + 4 * j := by rw [HL5.out, List.length_append, flat_len ps j hj]
          by_cases hjl : j < ps.length
          · obtain ⟨pb, po, hpe, hpb, hpc5⟩ := place_at HP5.out hjl
            have hx := hpx ps[j] (List.getElem_mem hjl)
            have hsn := flat_snoc ps j hjl
            have HSN := Lib.hid hsn; clear hsn
            generalize ps[j] = x at *
            have hF := fun w => rFixed_any x 4 w (by omega) (by omega)
            have HF := Lib.hid hF; clear hF
            clear hpx
            subst hpe
            go_wp2_with fail
            refine (HF.out _).mono ?_
            rintro e w6 ⟨fv, rfl, hb6, hf6⟩
            obtain ⟨fA, fc, rfl, -, -, hf7⟩ := hf6.rd
            have hs6 := hb6.size
            have HO6 := Lib.hid (HO5.out.keep hb6 (Nat.le_refl _))
            have HB6 := Lib.hid (HB5.out.trans (hb6.mono HB5.out.size))
            have HP6 := Lib.hid (HP5.out.next hb6)
            have hw6 := HB6.out.size
            clear hb6 hf6
            go_wp2_with (at_builtin; (refine wpList_append _ rfl _ _ 23 23 rfl w.heap.size 5 i0 (.int .u8 0) 1 1 Try.underlying23 hi hz0 hz1 hz2 rfl (by decide) _ _ _ rfl HO6.out _ 4 _ rfl (Src.slice _ Try.underlying23 (by rw [List.length_map, leB_len]) hf7) ?c1 ?c2 ?c3 ?c4 ?_; (case c1 => (intro u hu; obtain ⟨x, _, rfl⟩ := List.mem_map.1 hu; rfl)); (case c2 => (unfold maxLen; omega)); (case c3 => omega); (case c4 => omega); intro v7 w7 hO7 hG7 hl7))
            have HBL := Lib.hid hbl5
            clear hbl5
            go_roundw
            case rel =>
              refine ⟨j + 1, v7, bl ++ leB x 4, by omega, by go_num, rfl, HB6.out.grown hG7 hw6 (fun g hg => (HO6.out.lt g hg).1), ?_, HP6.out.grown hG7 (Nat.le_refl _) HN5.out |>.more hG7.size, ?_, ?_⟩
              · rw [Hid, List.map_append, List.length_append, leB_len]; exact hO7
              · intro a ha h
                rcases (show v7.ownBlock = bv.ownBlock ∨ v7.ownBlock = some w6.heap.size from hl7) with h2 | h2
                · exact HN5.out a ha (h.trans h2)
                · rw [h2] at h
                  injection h with h
                  rcases HP6.out with h3 | ⟨b3, o3, h4, h5, _⟩
                  · have : ps = [] := by simpa using h3
                    subst this; simp at hjl
                  · rw [ha] at h4; injection h4 with h4; rw [h4] at h; dsimp only at h; omega
              · rw [Hid, HSN.out, HL5.out, List.append_assoc]
            case measure => simp [intOf]; omega
          · obtain rfl : j = ps.length := by omega
            have hF := fun w => rFixed_any ps.length 4 w (by omega) (by omega)
            have HF := Lib.hid hF; clear hF
            clear hpx
            go_wp2_with fail
            refine (HF.out _).mono ?_
            rintro e w6 ⟨fv, rfl, hb6, hf6⟩
            obtain ⟨fA, fc, rfl, -, -, hf7⟩ := hf6.rd
            have hs6 := hb6.size
            have HO6 := Lib.hid (HO5.out.keep hb6 (Nat.le_refl _))
            have HB6 := Lib.hid (HB5.out.trans (hb6.mono HB5.out.size))
            have hw6 := HB6.out.size
            clear hb6 hf6
            go_wp2_with (at_builtin; (refine wpList_append _ rfl _ _ 23 23 rfl w.heap.size 5 i0 (.int .u8 0) 1 1 Try.underlying23 hi hz0 hz1 hz2 rfl (by decide) _ _ _ rfl HO6.out _ 4 _ rfl (Src.slice _ Try.underlying23 (by rw [List.length_map, leB_len]) hf7) ?c1 ?c2 ?c3 ?c4 ?_; (case c1 => (intro u hu; obtain ⟨x, _, rfl⟩ := List.mem_map.1 hu; rfl)); (case c2 => (unfold maxLen; omega)); (case c3 => omega); (case c4 => omega); intro v7 w7 hO7 hG7 hl7))
            go_ret
            have hfin : bl ++ leB ps.length 4 = res := by rw [← HEND.out, HL5.out, List.take_length, List.append_assoc]
            have hO8 : Own w7 w.heap.size 5 1 v7 (bl ++ leB ps.length 4).length ((bl ++ leB ps.length 4).map byteV) := by rw [List.map_append, List.length_append, leB_len]; exact hO7
            rw [hfin] at hO8
            exact ⟨v7, rfl, HB6.out.grown hG7 hw6 (fun g hg => (HO6.out.lt g hg).1), hO8⟩
end Go.Proofs.Ytkajgpcnodgpcaa
