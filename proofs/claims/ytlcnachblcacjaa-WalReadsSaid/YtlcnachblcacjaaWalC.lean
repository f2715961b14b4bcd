/-
  The program's reader of a fragment.
-/
import Derived.Test.YtlcnachblcacjaaWalB
import Derived.Test.YtlcnachblcacjaaGro
namespace Go.Proofs.Ytlcnachblcacjaa
set_option linter.unusedSimpArgs false
set_option linter.unusedVariables false
open Go.RowKit Go.IntWalk

def rdC (c0 : Value) (log : Int) (r : Bool) (at_ : Nat) (g : Bool) : Array Value := #[c0, .int .u32 log, .bool r, .int .i64 (hdN r : Nat), .int .i64 (at_ : Nat), .bool g]
def NxP (w : World) (q : Nat) (c0 : Value) (log : Int) (r g : Bool) (n : Nx) (e : Ending) (w' : World) : Prop :=
  w.grownBy w' (some q) ∧ match n with
  | .stop how => e = .returned (.tuple #[.int .i64 0, .slice none 0 0, .int .i64 how])
  | .frag typ body at' => ∃ A c, e = .returned (.tuple #[.int .i64 typ, .slice A body.length c, .int .i64 (-1)]) ∧ Bs w' w'.heap.size A body ∧ Blk w' q 40 (rdC c0 log r at' g)
theorem grow_set {w : World} (q i : Nat) (v : Value) : w.grownBy (w.setCell ⟨q, i, none⟩ v) (some q) :=
  ⟨rfl, rfl, rfl, by simp, fun k hk hne => Below.heap_setCell w _ v k (fun e => hne (by rw [e]))⟩
theorem ret_three {a b c a' b' c' : Value} (h1 : a = a') (h2 : b = b') (h3 : c = c') : Ending.returned (.tuple #[a, b, c]) = .returned (.tuple #[a', b', c']) := by rw [h1, h2, h3]
set_option maxHeartbeats 2000000 in
set_option maxRecDepth 100000 in
theorem wFrag_any (q bb off cap at_ : Nat) (c0 : Value) (log : Int) (r g : Bool) (l : List UInt8) (w : World) (hblk : Blk w q 40 (rdC c0 log r at_ g)) (hbs : Bs w w.heap.size (some ⟨bb, off, none⟩) l)
    (hl : hdN r ≤ l.length) (hl2 : l.length ≤ 200000) (hcap : l.length ≤ cap) (hne : bb ≠ q) (hat : at_ ≤ 2000000000) :
    Calls Try.prog 22 #[.pointer (some ⟨q, 0, none⟩), .slice (some ⟨bb, off, none⟩) l.length cap] w (NxP w q c0 log r g (fragB l log r g at_)) := by
  have hh := hdN_bd r
  have hbyte := byte_of hbs (show 6 < l.length by omega)
  rw [byN_at] at hbyte
  have hx := byN_lt l 6
  have hF : fragB l log r g at_ = (if maskI (sumL (l.drop 6)) ≠ unB (l.take 4) ∨ typL l r < 1 ∨ 4 < typL l r then .stop (badI r)
    else if r = true ∧ (unB ((l.drop 7).take 4) : Int) ≠ log then .stop 2
    else if decide (typL l r = 1 ∨ typL l r = 2) = g then .stop (badI r)
    else .frag (typL l r) (l.drop (hdN r)) (at_ + l.length)) := rfl
  have htyp : typL l r = (byN l 6 : Int) - (if r then 4 else 0) := rfl
  have hR := fun w' h => cReadFixed32_long (some ⟨bb, off, none⟩) cap l w' (by omega) hcap h
  have hS := fun w' h => cSum_any (some ⟨bb, off + 6, none⟩) (cap - 6) (l.drop 6) w' (by rw [List.length_drop]; omega) h
  rw [List.length_drop] at hS
  have hsl : 4294967295 - crcL (l.drop 6) 4294967295 ≤ 4294967295 := by omega
  have hm6 : sumL (l.drop 6) = 4294967295 - crcL (l.drop 6) 4294967295 := rfl
  rw [← hm6] at hS hsl
  have hM := fun w' => cMask_any (sumL (l.drop 6) : Int) w' (by omega) (by omega)
  have hd6 := Rd.cut hbs 6
  rw [← List.map_drop] at hd6
  generalize hN : fragB l log r g at_ = N at *
  generalize sumL (l.drop 6) = sm at *
  have hmb := maskI_bd sm
  generalize maskI sm = M at *
  have hU : unB (l.take 4) ≤ 4294967295 := by have := unB_lt (l.take 4); rw [List.length_take, Nat.min_eq_left (by omega)] at this; omega
  generalize unB (l.take 4) = U at *
  generalize hxx : byN l 6 = x at *
  have HX := Lib.hid hxx; clear hxx
  have HF := Lib.hid hF
  have HR := Lib.hid hR
  have HS := Lib.hid hS
  have HM := Lib.hid hM
  have HD6 := Lib.hid hd6
  have HBS := Lib.hid hbs
  have HBK := Lib.hid hblk
  have HT := Lib.hid htyp
  have c2 := hblk.cell 2
  simp only [rdC, List.getElem?_toArray, List.getElem?_cons_zero, List.getElem?_cons_succ] at c2
  clear hF hR hS hM hd6 hbs hblk htyp hN hm6
  obtain ⟨t, ht⟩ : ∃ t : Int, typL l r = t := ⟨_, rfl⟩
  rw [ht] at HT HF
  cases r
  ·
    simp only [hdN, Bool.false_eq_true, if_false, if_true] at hl hh
    go_enter Try.func22, Try.ntmps22
    go_wp2_with fail
    refine (HR.out _ HBS.out).mono ?_
    rintro e w1 ⟨rfl, hb1⟩
    have hbyte := byte_of (HBS.out.keep hb1) (show 6 < l.length by omega)
    rw [byN_at, HX.out] at hbyte
    have HBK1 := Lib.hid (HBK.out.below hb1 HBK.out.lt)
    have c2 := HBK1.out.cell 2
    simp only [rdC, List.getElem?_toArray, List.getElem?_cons_zero, List.getElem?_cons_succ] at c2
    have HG1 := Lib.hid (grow_below hb1 (some q))
    have HBS1 := Lib.hid (HBS.out.next hb1)
    have HD61 := Lib.hid (HD6.out.next hb1)
    clear hb1
    go_wp2_with fail
    refine (HS.out _ HD61.out).mono ?_
    rintro e w2 ⟨rfl, hb2⟩
    have HBK2 := Lib.hid (HBK1.out.below hb2 HBK1.out.lt)
    have c1 := HBK2.out.cell 1
    have c2 := HBK2.out.cell 2
    have c3 := HBK2.out.cell 3
    have c4 := HBK2.out.cell 4
    have c5 := HBK2.out.cell 5
    have f4 := HBK2.out.frozen 4
    simp only [rdC, hdN, Bool.false_eq_true, if_false, if_true, List.getElem?_toArray, List.getElem?_cons_zero, List.getElem?_cons_succ] at c1 c2 c3 c4 c5
    have HG2 := Lib.hid (grow_then HG1.out (grow_below hb2 (some q)) (.inl rfl))
    have HBS2 := Lib.hid (HBS1.out.next hb2)
    clear hb2 HBK1 HG1 HBS1 HD61 HR HS HBK HBS HD6
    go_wp2_with fail
    refine (HM.out _).mono ?_
    rintro e w3 ⟨rfl, rfl⟩
    have hth : (x : Int) = t := by have := HT.out; simpa using this.symm
    have hxt : ∀ w : World, w = w := fun _ => rfl
    rw [hth]
    clear HT HX hxt ht
    by_cases hM : M = (U : Int)
    · have hb0 : (M != (U : Int)) = false := by simpa using hM
      by_cases h1 : t < 1
      · have hd1 : decide (t < 1) = true := by simpa using h1
        have hq : N = .stop (badI false) := by rw [HF.out]; rw [if_pos (.inr (.inl h1))]
        subst hq
        clear HF hM
        go_wp2_with fail
        refine (wBad_any q false _ c2).mono ?_
        rintro e w4 ⟨rfl, rfl⟩
        go_wp2_with fail
        go_ret3
        exact ⟨HG2.out, rfl⟩
      · have hd1 : decide (t < 1) = false := by simpa using h1
        by_cases h4 : 4 < t
        · have hd4 : decide (4 < t) = true := by simpa using h4
          have hq : N = .stop (badI false) := by rw [HF.out]; rw [if_pos (.inr (.inr h4))]
          subst hq
          clear HF hM
          go_wp2_with fail
          refine (wBad_any q false _ c2).mono ?_
          rintro e w4 ⟨rfl, rfl⟩
          go_wp2_with fail
          go_ret3
          exact ⟨HG2.out, rfl⟩
        · have hd4 : decide (4 < t) = false := by simpa using h4
          clear hd1 hd4
          rcases (show t = 1 ∨ t = 2 ∨ t = 3 ∨ t = 4 by omega) with rfl | rfl | rfl | rfl
          · cases g
            ·
              have hq : N = .frag 1 (l.drop (hdN false)) (at_ + l.length) := by rw [HF.out, if_neg (by omega), if_neg (by simp), if_neg (by simp)]
              subst hq
              clear HF hM
              have hcut := Rd.cutIf HBS2.out hcap (show 7 ≤ l.length from hl)
              obtain ⟨A', hA'⟩ : ∃ A' : Option Addr, (if cap = 7 then some ⟨bb, off, none⟩ else some ⟨bb, off + 7, none⟩) = A' := ⟨_, rfl⟩
              rw [hA'] at hcut
              have HCUT := Lib.hid (hcut.far (p := ⟨q, 4, none⟩) (fun a ha => by rw [← hA'] at ha; split at ha <;> (injection ha with ha; rw [← ha]; exact hne)) (.int .i64 ((at_ : Int) + (l.length : Int))))
              clear hcut
              have hcl : (7 : Int) ≤ (l.length : Int) := by omega
              have hcl2 : (l.length : Int) ≤ (cap : Int) := by omega
              have HBK3 := Lib.hid (HBK2.out.set_ 4 (.int .i64 ((at_ : Int) + (l.length : Int))))
              have HG3 := Lib.hid (grow_then HG2.out (grow_set q 4 (.int .i64 ((at_ : Int) + (l.length : Int)))) (.inl rfl))
              go_wp2_with fail
              have hsz : (w3.setCell ⟨q, 4, none⟩ (.int .i64 ((at_ : Int) + (l.length : Int)))).heap.size = w3.heap.size := by simp
              generalize World.setCell w3 _ _ = w5 at *
              have c3 := HBK3.out.cell 3
              simp only [rdC, hdN, Bool.false_eq_true, if_false, if_true, List.getElem?_toArray, List.getElem?_cons_zero, List.getElem?_cons_succ, List.setIfInBounds_toArray, List.set_cons_succ, List.set_cons_zero] at c3
              go_quiet (fail)
              go_wp2_with fail
              have hbd := below_drewN (Below.refl w5.heap.size w5) nq
              have hbk := HBK3.out.below hbd HBK3.out.lt
              go_ret3
              exact ⟨grow_then HG3.out (grow_below hbd (some q)) (.inl rfl), A', cap - 7, ret_three rfl (by rw [List.length_drop]; rfl) rfl, Rd.next (HCUT.out.more (Nat.le_of_eq hsz.symm)) hbd, by simpa [rdC] using hbk⟩
            ·
              have hq : N = .stop (badI false) := by rw [HF.out]; rw [if_neg (by omega), if_neg (by simp), if_pos (by simp)]
              subst hq
              clear HF hM
              go_wp2_with fail
              refine (wBad_any q false _ c2).mono ?_
              rintro e w4 ⟨rfl, rfl⟩
              go_wp2_with fail
              go_ret3
              exact ⟨HG2.out, rfl⟩
          · cases g
            ·
              have hq : N = .frag 2 (l.drop (hdN false)) (at_ + l.length) := by rw [HF.out, if_neg (by omega), if_neg (by simp), if_neg (by simp)]
              subst hq
              clear HF hM
              have hcut := Rd.cutIf HBS2.out hcap (show 7 ≤ l.length from hl)
              obtain ⟨A', hA'⟩ : ∃ A' : Option Addr, (if cap = 7 then some ⟨bb, off, none⟩ else some ⟨bb, off + 7, none⟩) = A' := ⟨_, rfl⟩
              rw [hA'] at hcut
              have HCUT := Lib.hid (hcut.far (p := ⟨q, 4, none⟩) (fun a ha => by rw [← hA'] at ha; split at ha <;> (injection ha with ha; rw [← ha]; exact hne)) (.int .i64 ((at_ : Int) + (l.length : Int))))
              clear hcut
              have hcl : (7 : Int) ≤ (l.length : Int) := by omega
              have hcl2 : (l.length : Int) ≤ (cap : Int) := by omega
              have HBK3 := Lib.hid (HBK2.out.set_ 4 (.int .i64 ((at_ : Int) + (l.length : Int))))
              have HG3 := Lib.hid (grow_then HG2.out (grow_set q 4 (.int .i64 ((at_ : Int) + (l.length : Int)))) (.inl rfl))
              go_wp2_with fail
              have hsz : (w3.setCell ⟨q, 4, none⟩ (.int .i64 ((at_ : Int) + (l.length : Int)))).heap.size = w3.heap.size := by simp
              generalize World.setCell w3 _ _ = w5 at *
              have c3 := HBK3.out.cell 3
              simp only [rdC, hdN, Bool.false_eq_true, if_false, if_true, List.getElem?_toArray, List.getElem?_cons_zero, List.getElem?_cons_succ, List.setIfInBounds_toArray, List.set_cons_succ, List.set_cons_zero] at c3
              go_quiet (fail)
              go_wp2_with fail
              have hbd := below_drewN (Below.refl w5.heap.size w5) nq
              have hbk := HBK3.out.below hbd HBK3.out.lt
              go_ret3
              exact ⟨grow_then HG3.out (grow_below hbd (some q)) (.inl rfl), A', cap - 7, ret_three rfl (by rw [List.length_drop]; rfl) rfl, Rd.next (HCUT.out.more (Nat.le_of_eq hsz.symm)) hbd, by simpa [rdC] using hbk⟩
            ·
              have hq : N = .stop (badI false) := by rw [HF.out]; rw [if_neg (by omega), if_neg (by simp), if_pos (by simp)]
              subst hq
              clear HF hM
              go_wp2_with fail
              refine (wBad_any q false _ c2).mono ?_
              rintro e w4 ⟨rfl, rfl⟩
              go_wp2_with fail
              go_ret3
              exact ⟨HG2.out, rfl⟩
          · cases g
            ·
              have hq : N = .stop (badI false) := by rw [HF.out]; rw [if_neg (by omega), if_neg (by simp), if_pos (by simp)]
              subst hq
              clear HF hM
              go_wp2_with fail
              refine (wBad_any q false _ c2).mono ?_
              rintro e w4 ⟨rfl, rfl⟩
              go_wp2_with fail
              go_ret3
              exact ⟨HG2.out, rfl⟩
            ·
              have hq : N = .frag 3 (l.drop (hdN false)) (at_ + l.length) := by rw [HF.out, if_neg (by omega), if_neg (by simp), if_neg (by simp)]
              subst hq
              clear HF hM
              have hcut := Rd.cutIf HBS2.out hcap (show 7 ≤ l.length from hl)
              obtain ⟨A', hA'⟩ : ∃ A' : Option Addr, (if cap = 7 then some ⟨bb, off, none⟩ else some ⟨bb, off + 7, none⟩) = A' := ⟨_, rfl⟩
              rw [hA'] at hcut
              have HCUT := Lib.hid (hcut.far (p := ⟨q, 4, none⟩) (fun a ha => by rw [← hA'] at ha; split at ha <;> (injection ha with ha; rw [← ha]; exact hne)) (.int .i64 ((at_ : Int) + (l.length : Int))))
              clear hcut
              have hcl : (7 : Int) ≤ (l.length : Int) := by omega
              have hcl2 : (l.length : Int) ≤ (cap : Int) := by omega
              have HBK3 := Lib.hid (HBK2.out.set_ 4 (.int .i64 ((at_ : Int) + (l.length : Int))))
              have HG3 := Lib.hid (grow_then HG2.out (grow_set q 4 (.int .i64 ((at_ : Int) + (l.length : Int)))) (.inl rfl))
              go_wp2_with fail
              have hsz : (w3.setCell ⟨q, 4, none⟩ (.int .i64 ((at_ : Int) + (l.length : Int)))).heap.size = w3.heap.size := by simp
              generalize World.setCell w3 _ _ = w5 at *
              have c3 := HBK3.out.cell 3
              simp only [rdC, hdN, Bool.false_eq_true, if_false, if_true, List.getElem?_toArray, List.getElem?_cons_zero, List.getElem?_cons_succ, List.setIfInBounds_toArray, List.set_cons_succ, List.set_cons_zero] at c3
              go_quiet (fail)
              go_wp2_with fail
              have hbd := below_drewN (Below.refl w5.heap.size w5) nq
              have hbk := HBK3.out.below hbd HBK3.out.lt
              go_ret3
              exact ⟨grow_then HG3.out (grow_below hbd (some q)) (.inl rfl), A', cap - 7, ret_three rfl (by rw [List.length_drop]; rfl) rfl, Rd.next (HCUT.out.more (Nat.le_of_eq hsz.symm)) hbd, by simpa [rdC] using hbk⟩
          · cases g
            ·
              have hq : N = .stop (badI false) := by rw [HF.out]; rw [if_neg (by omega), if_neg (by simp), if_pos (by simp)]
              subst hq
              clear HF hM
              go_wp2_with fail
              refine (wBad_any q false _ c2).mono ?_
              rintro e w4 ⟨rfl, rfl⟩
              go_wp2_with fail
              go_ret3
              exact ⟨HG2.out, rfl⟩
            ·
              have hq : N = .frag 4 (l.drop (hdN false)) (at_ + l.length) := by rw [HF.out, if_neg (by omega), if_neg (by simp), if_neg (by simp)]
              subst hq
              clear HF hM
              have hcut := Rd.cutIf HBS2.out hcap (show 7 ≤ l.length from hl)
              obtain ⟨A', hA'⟩ : ∃ A' : Option Addr, (if cap = 7 then some ⟨bb, off, none⟩ else some ⟨bb, off + 7, none⟩) = A' := ⟨_, rfl⟩
              rw [hA'] at hcut
              have HCUT := Lib.hid (hcut.far (p := ⟨q, 4, none⟩) (fun a ha => by rw [← hA'] at ha; split at ha <;> (injection ha with ha; rw [← ha]; exact hne)) (.int .i64 ((at_ : Int) + (l.length : Int))))
              clear hcut
              have hcl : (7 : Int) ≤ (l.length : Int) := by omega
              have hcl2 : (l.length : Int) ≤ (cap : Int) := by omega
              have HBK3 := Lib.hid (HBK2.out.set_ 4 (.int .i64 ((at_ : Int) + (l.length : Int))))
              have HG3 := Lib.hid (grow_then HG2.out (grow_set q 4 (.int .i64 ((at_ : Int) + (l.length : Int)))) (.inl rfl))
              go_wp2_with fail
              have hsz : (w3.setCell ⟨q, 4, none⟩ (.int .i64 ((at_ : Int) + (l.length : Int)))).heap.size = w3.heap.size := by simp
              generalize World.setCell w3 _ _ = w5 at *
              have c3 := HBK3.out.cell 3
              simp only [rdC, hdN, Bool.false_eq_true, if_false, if_true, List.getElem?_toArray, List.getElem?_cons_zero, List.getElem?_cons_succ, List.setIfInBounds_toArray, List.set_cons_succ, List.set_cons_zero] at c3
              go_quiet (fail)
              go_wp2_with fail
              have hbd := below_drewN (Below.refl w5.heap.size w5) nq
              have hbk := HBK3.out.below hbd HBK3.out.lt
              go_ret3
              exact ⟨grow_then HG3.out (grow_below hbd (some q)) (.inl rfl), A', cap - 7, ret_three rfl (by rw [List.length_drop]; rfl) rfl, Rd.next (HCUT.out.more (Nat.le_of_eq hsz.symm)) hbd, by simpa [rdC] using hbk⟩
    · have hb0 : (M != (U : Int)) = true := by simpa using hM
      have hq : N = .stop (badI false) := by rw [HF.out]; rw [if_pos (.inl hM)]
      subst hq
      clear HF hM
      go_wp2_with fail
      refine (wBad_any q false _ c2).mono ?_
      rintro e w4 ⟨rfl, rfl⟩
      go_wp2_with fail
      go_ret3
      exact ⟨HG2.out, rfl⟩
  ·
    simp only [hdN, Bool.false_eq_true, if_false, if_true] at hl hh
    go_enter Try.func22, Try.ntmps22
    go_wp2_with fail
    refine (HR.out _ HBS.out).mono ?_
    rintro e w1 ⟨rfl, hb1⟩
    have hbyte := byte_of (HBS.out.keep hb1) (show 6 < l.length by omega)
    rw [byN_at, HX.out] at hbyte
    have HBK1 := Lib.hid (HBK.out.below hb1 HBK.out.lt)
    have c2 := HBK1.out.cell 2
    simp only [rdC, List.getElem?_toArray, List.getElem?_cons_zero, List.getElem?_cons_succ] at c2
    have HG1 := Lib.hid (grow_below hb1 (some q))
    have HBS1 := Lib.hid (HBS.out.next hb1)
    have HD61 := Lib.hid (HD6.out.next hb1)
    clear hb1
    go_wp2_with fail
    refine (HS.out _ HD61.out).mono ?_
    rintro e w2 ⟨rfl, hb2⟩
    have HBK2 := Lib.hid (HBK1.out.below hb2 HBK1.out.lt)
    have c1 := HBK2.out.cell 1
    have c2 := HBK2.out.cell 2
    have c3 := HBK2.out.cell 3
    have c4 := HBK2.out.cell 4
    have c5 := HBK2.out.cell 5
    have f4 := HBK2.out.frozen 4
    simp only [rdC, hdN, Bool.false_eq_true, if_false, if_true, List.getElem?_toArray, List.getElem?_cons_zero, List.getElem?_cons_succ] at c1 c2 c3 c4 c5
    have HG2 := Lib.hid (grow_then HG1.out (grow_below hb2 (some q)) (.inl rfl))
    have HBS2 := Lib.hid (HBS1.out.next hb2)
    clear hb2 HBK1 HG1 HBS1 HD61 HR HS HBK HBS HD6
    go_wp2_with fail
    refine (HM.out _).mono ?_
    rintro e w3 ⟨rfl, rfl⟩
    have hth : (x : Int) - 4 = t := by have := HT.out; simpa using this.symm
    have hR7 := fun w' h => cReadFixed32_long (some ⟨bb, off + 7, none⟩) (cap - 7) (l.drop 7) w' (by rw [List.length_drop]; omega) (by rw [List.length_drop]; omega) h
    rw [List.length_drop] at hR7
    have hd7 := Rd.cut HBS2.out 7
    rw [← List.map_drop] at hd7
    generalize unB ((l.drop 7).take 4) = V at *
    have HR7 := Lib.hid hR7
    have HD7 := Lib.hid hd7
    clear HT HX ht hR7 hd7
    by_cases hM : M = (U : Int)
    · have hb0 : (M != (U : Int)) = false := by simpa using hM
      by_cases h1 : t < 1
      · have hd1 : decide (t < 1) = true := by simpa using h1
        have hq : N = .stop (badI true) := by rw [HF.out]; rw [if_pos (.inr (.inl h1))]
        subst hq
        clear HF hM
        go_wp2_with fail
        refine (wBad_any q true _ c2).mono ?_
        rintro e w4 ⟨rfl, rfl⟩
        go_wp2_with fail
        go_ret3
        exact ⟨HG2.out, rfl⟩
      · have hd1 : decide (t < 1) = false := by simpa using h1
        by_cases h4 : 4 < t
        · have hd4 : decide (4 < t) = true := by simpa using h4
          have hq : N = .stop (badI true) := by rw [HF.out]; rw [if_pos (.inr (.inr h4))]
          subst hq
          clear HF hM
          go_wp2_with fail
          refine (wBad_any q true _ c2).mono ?_
          rintro e w4 ⟨rfl, rfl⟩
          go_wp2_with fail
          go_ret3
          exact ⟨HG2.out, rfl⟩
        · have hd4 : decide (4 < t) = false := by simpa using h4
          have hM2 := Lib.hid hM
          clear hM
          go_wp2_with fail
          refine (HR7.out _ HD7.out).mono ?_
          rintro e w4 ⟨rfl, hb4⟩
          have HBK4 := Lib.hid (HBK2.out.below hb4 HBK2.out.lt)
          have HG4 := Lib.hid (grow_then HG2.out (grow_below hb4 (some q)) (.inl rfl))
          have HBS4 := Lib.hid (HBS2.out.next hb4)
          clear hb4 HBK2 HG2 HBS2 HD7 HR7 c1 c2 c3 c4 c5 f4
          have HBK2 := HBK4
          have HG2 := HG4
          have HBS2 := HBS4
          have c1 := HBK2.out.cell 1
          have c2 := HBK2.out.cell 2
          have c3 := HBK2.out.cell 3
          have c4 := HBK2.out.cell 4
          have c5 := HBK2.out.cell 5
          have f4 := HBK2.out.frozen 4
          simp only [rdC, hdN, Bool.false_eq_true, if_false, if_true, List.getElem?_toArray, List.getElem?_cons_zero, List.getElem?_cons_succ] at c1 c2 c3 c4 c5
          clear HBK4 HG4 HBS4
          by_cases hL : (V : Int) = log
          · have hb1 : ((V : Int) != log) = false := by simpa using hL
            have hM := hM2.out
            have HNL := Lib.hid hL
            clear hL hd1 hd4 hM2
            rcases (show t = 1 ∨ t = 2 ∨ t = 3 ∨ t = 4 by omega) with rfl | rfl | rfl | rfl
            · cases g
              ·
                have hq : N = .frag 1 (l.drop (hdN true)) (at_ + l.length) := by rw [HF.out, if_neg (by omega), if_neg (fun h => h.2 HNL.out), if_neg (by simp)]
                subst hq
                clear HF hM
                have hcut := Rd.cutIf HBS2.out hcap (show 11 ≤ l.length from hl)
                obtain ⟨A', hA'⟩ : ∃ A' : Option Addr, (if cap = 11 then some ⟨bb, off, none⟩ else some ⟨bb, off + 11, none⟩) = A' := ⟨_, rfl⟩
                rw [hA'] at hcut
                have HCUT := Lib.hid (hcut.far (p := ⟨q, 4, none⟩) (fun a ha => by rw [← hA'] at ha; split at ha <;> (injection ha with ha; rw [← ha]; exact hne)) (.int .i64 ((at_ : Int) + (l.length : Int))))
                clear hcut
                have hcl : (11 : Int) ≤ (l.length : Int) := by omega
                have hcl2 : (l.length : Int) ≤ (cap : Int) := by omega
                have HBK3 := Lib.hid (HBK2.out.set_ 4 (.int .i64 ((at_ : Int) + (l.length : Int))))
                have HG3 := Lib.hid (grow_then HG2.out (grow_set q 4 (.int .i64 ((at_ : Int) + (l.length : Int)))) (.inl rfl))
                go_wp2_with fail
                have hsz : (w4.setCell ⟨q, 4, none⟩ (.int .i64 ((at_ : Int) + (l.length : Int)))).heap.size = w4.heap.size := by simp
                generalize World.setCell w4 _ _ = w5 at *
                have c3 := HBK3.out.cell 3
                simp only [rdC, hdN, Bool.false_eq_true, if_false, if_true, List.getElem?_toArray, List.getElem?_cons_zero, List.getElem?_cons_succ, List.setIfInBounds_toArray, List.set_cons_succ, List.set_cons_zero] at c3
                go_quiet (fail)
                go_wp2_with fail
                have hbd := below_drewN (Below.refl w5.heap.size w5) nq
                have hbk := HBK3.out.below hbd HBK3.out.lt
                go_ret3
                exact ⟨grow_then HG3.out (grow_below hbd (some q)) (.inl rfl), A', cap - 11, ret_three rfl (by rw [List.length_drop]; rfl) rfl, Rd.next (HCUT.out.more (Nat.le_of_eq hsz.symm)) hbd, by simpa [rdC] using hbk⟩
              ·
                have hq : N = .stop (badI true) := by rw [HF.out]; rw [if_neg (by omega), if_neg (fun h => h.2 HNL.out), if_pos (by simp)]
                subst hq
                clear HF hM
                go_wp2_with fail
                refine (wBad_any q true _ c2).mono ?_
                rintro e w4 ⟨rfl, rfl⟩
                go_wp2_with fail
                go_ret3
                exact ⟨HG2.out, rfl⟩
            · cases g
              ·
                have hq : N = .frag 2 (l.drop (hdN true)) (at_ + l.length) := by rw [HF.out, if_neg (by omega), if_neg (fun h => h.2 HNL.out), if_neg (by simp)]
                subst hq
                clear HF hM
                have hcut := Rd.cutIf HBS2.out hcap (show 11 ≤ l.length from hl)
                obtain ⟨A', hA'⟩ : ∃ A' : Option Addr, (if cap = 11 then some ⟨bb, off, none⟩ else some ⟨bb, off + 11, none⟩) = A' := ⟨_, rfl⟩
                rw [hA'] at hcut
                have HCUT := Lib.hid (hcut.far (p := ⟨q, 4, none⟩) (fun a ha => by rw [← hA'] at ha; split at ha <;> (injection ha with ha; rw [← ha]; exact hne)) (.int .i64 ((at_ : Int) + (l.length : Int))))
                clear hcut
                have hcl : (11 : Int) ≤ (l.length : Int) := by omega
                have hcl2 : (l.length : Int) ≤ (cap : Int) := by omega
                have HBK3 := Lib.hid (HBK2.out.set_ 4 (.int .i64 ((at_ : Int) + (l.length : Int))))
                have HG3 := Lib.hid (grow_then HG2.out (grow_set q 4 (.int .i64 ((at_ : Int) + (l.length : Int)))) (.inl rfl))
                go_wp2_with fail
                have hsz : (w4.setCell ⟨q, 4, none⟩ (.int .i64 ((at_ : Int) + (l.length : Int)))).heap.size = w4.heap.size := by simp
                generalize World.setCell w4 _ _ = w5 at *
                have c3 := HBK3.out.cell 3
                simp only [rdC, hdN, Bool.false_eq_true, if_false, if_true, List.getElem?_toArray, List.getElem?_cons_zero, List.getElem?_cons_succ, List.setIfInBounds_toArray, List.set_cons_succ, List.set_cons_zero] at c3
                go_quiet (fail)
                go_wp2_with fail
                have hbd := below_drewN (Below.refl w5.heap.size w5) nq
                have hbk := HBK3.out.below hbd HBK3.out.lt
                go_ret3
                exact ⟨grow_then HG3.out (grow_below hbd (some q)) (.inl rfl), A', cap - 11, ret_three rfl (by rw [List.length_drop]; rfl) rfl, Rd.next (HCUT.out.more (Nat.le_of_eq hsz.symm)) hbd, by simpa [rdC] using hbk⟩
              ·
                have hq : N = .stop (badI true) := by rw [HF.out]; rw [if_neg (by omega), if_neg (fun h => h.2 HNL.out), if_pos (by simp)]
                subst hq
                clear HF hM
                go_wp2_with fail
                refine (wBad_any q true _ c2).mono ?_
                rintro e w4 ⟨rfl, rfl⟩
                go_wp2_with fail
                go_ret3
                exact ⟨HG2.out, rfl⟩
            · cases g
              ·
                have hq : N = .stop (badI true) := by rw [HF.out]; rw [if_neg (by omega), if_neg (fun h => h.2 HNL.out), if_pos (by simp)]
                subst hq
                clear HF hM
                go_wp2_with fail
                refine (wBad_any q true _ c2).mono ?_
                rintro e w4 ⟨rfl, rfl⟩
                go_wp2_with fail
                go_ret3
                exact ⟨HG2.out, rfl⟩
              ·
                have hq : N = .frag 3 (l.drop (hdN true)) (at_ + l.length) := by rw [HF.out, if_neg (by omega), if_neg (fun h => h.2 HNL.out), if_neg (by simp)]
                subst hq
                clear HF hM
                have hcut := Rd.cutIf HBS2.out hcap (show 11 ≤ l.length from hl)
                obtain ⟨A', hA'⟩ : ∃ A' : Option Addr, (if cap = 11 then some ⟨bb, off, none⟩ else some ⟨bb, off + 11, none⟩) = A' := ⟨_, rfl⟩
                rw [hA'] at hcut
                have HCUT := Lib.hid (hcut.far (p := ⟨q, 4, none⟩) (fun a ha => by rw [← hA'] at ha; split at ha <;> (injection ha with ha; rw [← ha]; exact hne)) (.int .i64 ((at_ : Int) + (l.length : Int))))
                clear hcut
                have hcl : (11 : Int) ≤ (l.length : Int) := by omega
                have hcl2 : (l.length : Int) ≤ (cap : Int) := by omega
                have HBK3 := Lib.hid (HBK2.out.set_ 4 (.int .i64 ((at_ : Int) + (l.length : Int))))
                have HG3 := Lib.hid (grow_then HG2.out (grow_set q 4 (.int .i64 ((at_ : Int) + (l.length : Int)))) (.inl rfl))
                go_wp2_with fail
                have hsz : (w4.setCell ⟨q, 4, none⟩ (.int .i64 ((at_ : Int) + (l.length : Int)))).heap.size = w4.heap.size := by simp
                generalize World.setCell w4 _ _ = w5 at *
                have c3 := HBK3.out.cell 3
                simp only [rdC, hdN, Bool.false_eq_true, if_false, if_true, List.getElem?_toArray, List.getElem?_cons_zero, List.getElem?_cons_succ, List.setIfInBounds_toArray, List.set_cons_succ, List.set_cons_zero] at c3
                go_quiet (fail)
                go_wp2_with fail
                have hbd := below_drewN (Below.refl w5.heap.size w5) nq
                have hbk := HBK3.out.below hbd HBK3.out.lt
                go_ret3
                exact ⟨grow_then HG3.out (grow_below hbd (some q)) (.inl rfl), A', cap - 11, ret_three rfl (by rw [List.length_drop]; rfl) rfl, Rd.next (HCUT.out.more (Nat.le_of_eq hsz.symm)) hbd, by simpa [rdC] using hbk⟩
            · cases g
              ·
                have hq : N = .stop (badI true) := by rw [HF.out]; rw [if_neg (by omega), if_neg (fun h => h.2 HNL.out), if_pos (by simp)]
                subst hq
                clear HF hM
                go_wp2_with fail
                refine (wBad_any q true _ c2).mono ?_
                rintro e w4 ⟨rfl, rfl⟩
                go_wp2_with fail
                go_ret3
                exact ⟨HG2.out, rfl⟩
              ·
                have hq : N = .frag 4 (l.drop (hdN true)) (at_ + l.length) := by rw [HF.out, if_neg (by omega), if_neg (fun h => h.2 HNL.out), if_neg (by simp)]
                subst hq
                clear HF hM
                have hcut := Rd.cutIf HBS2.out hcap (show 11 ≤ l.length from hl)
                obtain ⟨A', hA'⟩ : ∃ A' : Option Addr, (if cap = 11 then some ⟨bb, off, none⟩ else some ⟨bb, off + 11, none⟩) = A' := ⟨_, rfl⟩
                rw [hA'] at hcut
                have HCUT := Lib.hid (hcut.far (p := ⟨q, 4, none⟩) (fun a ha => by rw [← hA'] at ha; split at ha <;> (injection ha with ha; rw [← ha]; exact hne)) (.int .i64 ((at_ : Int) + (l.length : Int))))
                clear hcut
                have hcl : (11 : Int) ≤ (l.length : Int) := by omega
                have hcl2 : (l.length : Int) ≤ (cap : Int) := by omega
                have HBK3 := Lib.hid (HBK2.out.set_ 4 (.int .i64 ((at_ : Int) + (l.length : Int))))
                have HG3 := Lib.hid (grow_then HG2.out (grow_set q 4 (.int .i64 ((at_ : Int) + (l.length : Int)))) (.inl rfl))
                go_wp2_with fail
                have hsz : (w4.setCell ⟨q, 4, none⟩ (.int .i64 ((at_ : Int) + (l.length : Int)))).heap.size = w4.heap.size := by simp
                generalize World.setCell w4 _ _ = w5 at *
                have c3 := HBK3.out.cell 3
                simp only [rdC, hdN, Bool.false_eq_true, if_false, if_true, List.getElem?_toArray, List.getElem?_cons_zero, List.getElem?_cons_succ, List.setIfInBounds_toArray, List.set_cons_succ, List.set_cons_zero] at c3
                go_quiet (fail)
                go_wp2_with fail
                have hbd := below_drewN (Below.refl w5.heap.size w5) nq
                have hbk := HBK3.out.below hbd HBK3.out.lt
                go_ret3
                exact ⟨grow_then HG3.out (grow_below hbd (some q)) (.inl rfl), A', cap - 11, ret_three rfl (by rw [List.length_drop]; rfl) rfl, Rd.next (HCUT.out.more (Nat.le_of_eq hsz.symm)) hbd, by simpa [rdC] using hbk⟩
          · have hb1 : ((V : Int) != log) = true := by simpa using hL
            have hq : N = .stop 2 := by rw [HF.out, if_neg (fun h => by rcases h with h | h | h; exact h hM2.out; omega; omega), if_pos ⟨by simp, hL⟩]
            subst hq
            clear HF hL
            go_wp2_with fail
            go_ret3
            exact ⟨HG2.out, rfl⟩
    · have hb0 : (M != (U : Int)) = true := by simpa using hM
      have hq : N = .stop (badI true) := by rw [HF.out]; rw [if_pos (.inl hM)]
      subst hq
      clear HF hM
      go_wp2_with fail
      refine (wBad_any q true _ c2).mono ?_
      rintro e w4 ⟨rfl, rfl⟩
      go_wp2_with fail
      go_ret3
      exact ⟨HG2.out, rfl⟩
end Go.Proofs.Ytlcnachblcacjaa
