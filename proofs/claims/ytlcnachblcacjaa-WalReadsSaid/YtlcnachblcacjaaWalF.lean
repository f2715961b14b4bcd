/-
  The document's reader of a fragment.
-/
import Derived.Test.YtlcnachblcacjaaWalC
namespace Go.Proofs.Ytlcnachblcacjaa
set_option linter.unusedSimpArgs false
set_option linter.unusedVariables false
open Go.RowKit Go.IntWalk

def FrP (w : World) (n : Nx) (e : Ending) (w' : World) : Prop :=
  Below w.heap.size w w' ∧ match n with
  | .stop how => e = .returned (.tuple #[.int .i64 0, .slice none 0 0, .int .i64 how])
  | .frag typ body _ => ∃ A c, e = .returned (.tuple #[.int .i64 typ, .slice A body.length c, .int .i64 0]) ∧ Bs w' w'.heap.size A body
theorem slice_len {A : Option Addr} {a b c : Nat} (h : a = b) : Value.slice A a c = .slice A b c := by rw [h]
theorem unB_two {l : List UInt8} (h : 6 ≤ l.length) : unB ((l.drop 4).take 2) = byN l 4 + 256 * byN l 5 := by
  have e : (l.drop 4).take 2 = [l[4]'(by omega), l[5]'(by omega)] := by
    rw [List.drop_eq_getElem_cons (by omega), List.drop_eq_getElem_cons (by omega)]; rfl
  rw [e, ← byN_at (show 4 < l.length by omega), ← byN_at (show 5 < l.length by omega)]
  simp [unB]
theorem byN_take {l : List UInt8} {n i : Nat} (h : i < n) : byN (l.take n) i = byN l i := by unfold byN; rw [List.getElem?_take_of_lt h]
set_option maxHeartbeats 8000000 in
set_option maxRecDepth 100000 in
theorem r5Frag_any (bb off cap room at_ : Nat) (log : Int) (r g : Bool) (rest : List UInt8) (w : World) (hbs : Bs w w.heap.size (some ⟨bb, off, none⟩) rest)
    (hl : rest.length ≤ 1073741824) (hcap : rest.length ≤ cap) (hroom : room ≤ 4096) :
    Calls Try.prog 16 #[.slice (some ⟨bb, off, none⟩) rest.length cap, .int .i64 (room : Nat), .int .i64 (hdN r : Nat), .int .u32 log, .bool r, .bool g, .int .i64 (badI r)] w (FrP w (atB rest room log r g at_)) := by
  have hh := hdN_bd r
  obtain ⟨N, hN⟩ : ∃ N, atB rest room log r g at_ = N := ⟨_, rfl⟩
  rw [hN]
  unfold atB at hN
  have HN := Lib.hid hN
  have HBS := Lib.hid hbs
  have HZ := Lib.hid (rZero_any (some ⟨bb, off, none⟩) cap rest w.heap.size w (by omega) hbs)
  clear hN hbs
  rcases hz : zeroL rest with _ | _
  · rw [hz] at HZ
    have hn := HN.out
    rw [hz, if_neg (by simp)] at hn
    clear hz HN
    by_cases hsh : rest.length < hdN r
    · rw [if_pos hsh] at hn
      subst hn
      go_enter Try.func16, Try.ntmps16
      go_wp2_with fail
      refine HZ.out.mono ?_
      rintro e w1 ⟨rfl, rfl⟩
      go_wp2_with fail
      go_ret3
      exact ⟨Below.refl _ _, rfl⟩
    · rw [if_neg hsh] at hn
      have hl7 : 7 ≤ rest.length := by omega
      have hR2 := rReadFixed_long 2 (some ⟨bb, off + 4, none⟩) (cap - 4) (rest.drop 4) w.heap.size w (by omega) (by rw [List.length_drop]; omega) (by rw [List.length_drop]; omega) (by have := Rd.cut HBS.out 4; rwa [← List.map_drop] at this)
      rw [List.length_drop, unB_two (by omega)] at hR2
      have hb4 := byN_lt rest 4
      have hb5 := byN_lt rest 5
      have hsz : sizeB rest r = hdN r + (byN rest 4 + 256 * byN rest 5) := by unfold sizeB; omega
      have hnb : byN rest 4 + 256 * byN rest 5 ≤ 65535 := by omega
      generalize byN rest 4 + 256 * byN rest 5 = n at *
      rw [hsz] at hn
      clear hsz hb4 hb5
      have HR2 := Lib.hid hR2
      have hw64 : IntKind.i64.wrap (n : Int) = (n : Int) := i64_in _ (by omega)
      clear hR2
      by_cases hr : room < hdN r + n
      · rw [if_pos hr] at hn
        subst hn
        go_enter Try.func16, Try.ntmps16
        go_wp2_with fail
        refine HZ.out.mono ?_
        rintro e w1 ⟨rfl, rfl⟩
        go_wp2_with fail
        refine HR2.out.mono ?_
        rintro e w2 ⟨rfl, rfl⟩
        go_wp2_with fail
        go_ret3
        exact ⟨Below.refl _ _, rfl⟩
      · rw [if_neg hr] at hn
        by_cases hs : rest.length < hdN r + n
        · rw [if_pos hs] at hn
          subst hn
          go_enter Try.func16, Try.ntmps16
          go_wp2_with fail
          refine HZ.out.mono ?_
          rintro e w1 ⟨rfl, rfl⟩
          go_wp2_with fail
          refine HR2.out.mono ?_
          rintro e w2 ⟨rfl, rfl⟩
          go_wp2_with fail
          go_ret3
          exact ⟨Below.refl _ _, rfl⟩
        · rw [if_neg hs] at hn
          have hLl : (rest.take (hdN r + n)).length = hdN r + n := by rw [List.length_take]; omega
          have hbL : Bs w w.heap.size (some ⟨bb, off, none⟩) (rest.take (hdN r + n)) := by show Rd _ _ _ ((rest.take (hdN r + n)).map byteV); rw [List.map_take]; exact HBS.out.take _
          have hUt : (rest.take (hdN r + n)).take 4 = rest.take 4 := by rw [List.take_take, Nat.min_eq_left (by omega)]
          have hVt : r = true → ((rest.take (hdN r + n)).drop 7).take 4 = (rest.drop 7).take 4 := fun hr => by
            rw [List.drop_take, List.take_take, Nat.min_eq_left (by rw [hr]; simp only [hdN, if_true]; omega)]
          have hx6 : byN (rest.take (hdN r + n)) 6 = byN rest 6 := byN_take (by omega)
          have hS := rSum_any (some ⟨bb, off + 6, none⟩) (cap - 6) ((rest.take (hdN r + n)).drop 6) w.heap.size w (by rw [List.length_drop]; omega) (by have := Rd.cut hbL 6; rwa [← List.map_drop] at this)
          rw [List.length_drop, hLl] at hS
          have hU := rReadFixed_long 4 (some ⟨bb, off, none⟩) cap rest w.heap.size w (by omega) (by omega) (by omega) HBS.out
          have hbyte := byte_of HBS.out (show 6 < rest.length by omega)
          rw [byN_at] at hbyte
          have hx := byN_lt rest 6
          have hbody : (rest.take (hdN r + n)).drop (hdN r) = (rest.drop (hdN r)).take n := by rw [List.drop_take, Nat.add_sub_cancel_left]
          have hF : N = (if maskI (sumL ((rest.take (hdN r + n)).drop 6)) ≠ unB (rest.take 4) ∨ typL (rest.take (hdN r + n)) r < 1 ∨ 4 < typL (rest.take (hdN r + n)) r then .stop (badI r)
            else if r = true ∧ (unB (((rest.take (hdN r + n)).drop 7).take 4) : Int) ≠ log then .stop 2
            else if decide (typL (rest.take (hdN r + n)) r = 1 ∨ typL (rest.take (hdN r + n)) r = 2) = g then .stop (badI r)
            else .frag (typL (rest.take (hdN r + n)) r) ((rest.drop (hdN r)).take n) (at_ + (rest.take (hdN r + n)).length)) := by rw [← hn, ← hUt, ← hbody]; rfl
          have htyp : typL (rest.take (hdN r + n)) r = (byN rest 6 : Int) - (if r then 4 else 0) := by unfold typL; rw [hx6]
          have hsl : sumL ((rest.take (hdN r + n)).drop 6) ≤ 4294967295 := by unfold sumL; omega
          have hm6 : sumL ((rest.take (hdN r + n)).drop 6) = 4294967295 - crcL ((rest.take (hdN r + n)).drop 6) 4294967295 := rfl
          rw [← hm6] at hS
          have hM := fun w' => rMask_any (sumL ((rest.take (hdN r + n)).drop 6) : Int) w' (by omega) (by omega)
          generalize sumL ((rest.take (hdN r + n)).drop 6) = sm at *
          have hmb := maskI_bd sm
          generalize maskI sm = M at *
          have hU4 : unB (rest.take 4) ≤ 4294967295 := by have := unB_lt (rest.take 4); rw [List.length_take, Nat.min_eq_left (by omega)] at this; omega
          generalize unB (rest.take 4) = U at *
          have hwU : IntKind.u32.wrap (U : Int) = (U : Int) := u32_in _ (by omega)
          generalize typL (rest.take (hdN r + n)) r = t at *
          generalize hxx : byN rest 6 = x at *
          have HX := Lib.hid hxx
          have HF := Lib.hid hF
          have HU := Lib.hid hU
          have HS := Lib.hid hS
          have HM := Lib.hid hM
          have HT := Lib.hid htyp
          have HLL := Lib.hid hLl
          have htb : -4 ≤ t ∧ t ≤ 255 := by have := HT.out; split at this <;> omega
          clear hxx hF hU hS hM htyp hm6 hn hUt hx6 hbody hbL hLl hmb hsl hU4 hx
          cases r
          · have hth : (x : Int) = t := by have := HT.out; simpa using this.symm
            clear HT HX hVt
            go_enter Try.func16, Try.ntmps16
            go_wp2_with fail
            refine HZ.out.mono ?_
            rintro e w1 ⟨rfl, rfl⟩
            go_wp2_with fail
            refine HR2.out.mono ?_
            rintro e w2 ⟨rfl, rfl⟩
            go_wp2_with fail
            refine HU.out.mono ?_
            rintro e w3 ⟨rfl, rfl⟩
            go_wp2_with fail
            refine HS.out.mono ?_
            rintro e w4 ⟨rfl, rfl⟩
            go_wp2_with fail
            refine (HM.out _).mono ?_
            rintro e w5 ⟨rfl, rfl⟩
            by_cases hM : M = (U : Int)
            · have hb0 : (M != (U : Int)) = false := by simpa using hM
              by_cases h1 : t < 1
              · have hd1 : decide (t < 1) = true := by simpa using h1
                have hq : N = .stop (badI false) := by rw [HF.out]; rw [if_pos (.inr (.inl h1))]
                subst hq
                clear HF hM
                go_wp2_with fail
                go_ret3
                exact ⟨Below.refl _ _, rfl⟩
              · have hd1 : decide (t < 1) = false := by simpa using h1
                by_cases h4 : 4 < t
                · have hd4 : decide (4 < t) = true := by simpa using h4
                  have hq : N = .stop (badI false) := by rw [HF.out]; rw [if_pos (.inr (.inr h4))]
                  subst hq
                  clear HF hM
                  go_wp2_with fail
                  go_ret3
                  exact ⟨Below.refl _ _, rfl⟩
                · have hd4 : decide (4 < t) = false := by simpa using h4
                  clear hd1 hd4
                  rcases (show t = 1 ∨ t = 2 ∨ t = 3 ∨ t = 4 by omega) with rfl | rfl | rfl | rfl
                  · cases g
                    ·
                      have hq : N = .frag 1 ((rest.drop (hdN false)).take n) (at_ + (rest.take (hdN false + n)).length) := by rw [HF.out, if_neg (by omega), if_neg (by simp), if_neg (by simp)]
                      subst hq
                      clear HF hM
                      have hcut := (Rd.cutIf HBS.out hcap (show hdN false ≤ rest.length by omega)).take n
                      rw [← List.map_take] at hcut
                      obtain ⟨A', hA'⟩ : ∃ A' : Option Addr, (if cap = hdN false then (some ⟨bb, off, none⟩ : Option Addr) else some ⟨bb, off + hdN false, none⟩) = A' := ⟨_, rfl⟩
                      rw [hA'] at hcut
                      have HCUT := Lib.hid hcut
                      clear hcut
                      have hcl : (0 : Int) ≤ (hdN false : Int) ∧ (hdN false : Int) ≤ (hdN false : Int) + (n : Int) ∧ (hdN false : Int) + (n : Int) ≤ (cap : Int) := by omega
                      go_wp2_with fail
                      go_quiet (fail)
                      go_wp2_with fail
                      have hbd := below_drewN (Below.refl w5.heap.size w5) nq
                      go_ret3
                      exact ⟨hbd, A', cap - hdN false, ret_three rfl (slice_len (by rw [List.length_take, List.length_drop]; omega)) rfl, Rd.next HCUT.out hbd⟩
                    ·
                      have hq : N = .stop (badI false) := by rw [HF.out]; rw [if_neg (by omega), if_neg (by simp), if_pos (by simp)]
                      subst hq
                      clear HF hM
                      go_wp2_with fail
                      go_ret3
                      exact ⟨Below.refl _ _, rfl⟩
                  · cases g
                    ·
                      have hq : N = .frag 2 ((rest.drop (hdN false)).take n) (at_ + (rest.take (hdN false + n)).length) := by rw [HF.out, if_neg (by omega), if_neg (by simp), if_neg (by simp)]
                      subst hq
                      clear HF hM
                      have hcut := (Rd.cutIf HBS.out hcap (show hdN false ≤ rest.length by omega)).take n
                      rw [← List.map_take] at hcut
                      obtain ⟨A', hA'⟩ : ∃ A' : Option Addr, (if cap = hdN false then (some ⟨bb, off, none⟩ : Option Addr) else some ⟨bb, off + hdN false, none⟩) = A' := ⟨_, rfl⟩
                      rw [hA'] at hcut
                      have HCUT := Lib.hid hcut
                      clear hcut
                      have hcl : (0 : Int) ≤ (hdN false : Int) ∧ (hdN false : Int) ≤ (hdN false : Int) + (n : Int) ∧ (hdN false : Int) + (n : Int) ≤ (cap : Int) := by omega
                      go_wp2_with fail
                      go_quiet (fail)
                      go_wp2_with fail
                      have hbd := below_drewN (Below.refl w5.heap.size w5) nq
                      go_ret3
                      exact ⟨hbd, A', cap - hdN false, ret_three rfl (slice_len (by rw [List.length_take, List.length_drop]; omega)) rfl, Rd.next HCUT.out hbd⟩
                    ·
                      have hq : N = .stop (badI false) := by rw [HF.out]; rw [if_neg (by omega), if_neg (by simp), if_pos (by simp)]
                      subst hq
                      clear HF hM
                      go_wp2_with fail
                      go_ret3
                      exact ⟨Below.refl _ _, rfl⟩
                  · cases g
                    ·
                      have hq : N = .stop (badI false) := by rw [HF.out]; rw [if_neg (by omega), if_neg (by simp), if_pos (by simp)]
                      subst hq
                      clear HF hM
                      go_wp2_with fail
                      go_ret3
                      exact ⟨Below.refl _ _, rfl⟩
                    ·
                      have hq : N = .frag 3 ((rest.drop (hdN false)).take n) (at_ + (rest.take (hdN false + n)).length) := by rw [HF.out, if_neg (by omega), if_neg (by simp), if_neg (by simp)]
                      subst hq
                      clear HF hM
                      have hcut := (Rd.cutIf HBS.out hcap (show hdN false ≤ rest.length by omega)).take n
                      rw [← List.map_take] at hcut
                      obtain ⟨A', hA'⟩ : ∃ A' : Option Addr, (if cap = hdN false then (some ⟨bb, off, none⟩ : Option Addr) else some ⟨bb, off + hdN false, none⟩) = A' := ⟨_, rfl⟩
                      rw [hA'] at hcut
                      have HCUT := Lib.hid hcut
                      clear hcut
                      have hcl : (0 : Int) ≤ (hdN false : Int) ∧ (hdN false : Int) ≤ (hdN false : Int) + (n : Int) ∧ (hdN false : Int) + (n : Int) ≤ (cap : Int) := by omega
                      go_wp2_with fail
                      go_quiet (fail)
                      go_wp2_with fail
                      have hbd := below_drewN (Below.refl w5.heap.size w5) nq
                      go_ret3
                      exact ⟨hbd, A', cap - hdN false, ret_three rfl (slice_len (by rw [List.length_take, List.length_drop]; omega)) rfl, Rd.next HCUT.out hbd⟩
                  · cases g
                    ·
                      have hq : N = .stop (badI false) := by rw [HF.out]; rw [if_neg (by omega), if_neg (by simp), if_pos (by simp)]
                      subst hq
                      clear HF hM
                      go_wp2_with fail
                      go_ret3
                      exact ⟨Below.refl _ _, rfl⟩
                    ·
                      have hq : N = .frag 4 ((rest.drop (hdN false)).take n) (at_ + (rest.take (hdN false + n)).length) := by rw [HF.out, if_neg (by omega), if_neg (by simp), if_neg (by simp)]
                      subst hq
                      clear HF hM
                      have hcut := (Rd.cutIf HBS.out hcap (show hdN false ≤ rest.length by omega)).take n
                      rw [← List.map_take] at hcut
                      obtain ⟨A', hA'⟩ : ∃ A' : Option Addr, (if cap = hdN false then (some ⟨bb, off, none⟩ : Option Addr) else some ⟨bb, off + hdN false, none⟩) = A' := ⟨_, rfl⟩
                      rw [hA'] at hcut
                      have HCUT := Lib.hid hcut
                      clear hcut
                      have hcl : (0 : Int) ≤ (hdN false : Int) ∧ (hdN false : Int) ≤ (hdN false : Int) + (n : Int) ∧ (hdN false : Int) + (n : Int) ≤ (cap : Int) := by omega
                      go_wp2_with fail
                      go_quiet (fail)
                      go_wp2_with fail
                      have hbd := below_drewN (Below.refl w5.heap.size w5) nq
                      go_ret3
                      exact ⟨hbd, A', cap - hdN false, ret_three rfl (slice_len (by rw [List.length_take, List.length_drop]; omega)) rfl, Rd.next HCUT.out hbd⟩
            · have hb0 : (M != (U : Int)) = true := by simpa using hM
              have hq : N = .stop (badI false) := by rw [HF.out]; rw [if_pos (.inl hM)]
              subst hq
              clear HF hM
              go_wp2_with fail
              go_ret3
              exact ⟨Below.refl _ _, rfl⟩
          · have hth : (x : Int) - 4 = t := by have := HT.out; simpa using this.symm
            have hd11 : hdN true = 11 := rfl
            have hV := rReadFixed_long 4 (some ⟨bb, off + 7, none⟩) (cap - 7) (rest.drop 7) w.heap.size w (by omega) (by rw [List.length_drop]; omega) (by rw [List.length_drop]; omega) (by have := Rd.cut HBS.out 7; rwa [← List.map_drop] at this)
            rw [List.length_drop] at hV
            have hVb : unB ((rest.drop 7).take 4) ≤ 4294967295 := by have := unB_lt ((rest.drop 7).take 4); rw [List.length_take, List.length_drop, Nat.min_eq_left (by omega)] at this; omega
            have hvt := hVt rfl
            rw [hvt] at HF
            generalize unB ((rest.drop 7).take 4) = V at *
            have hwV : IntKind.u32.wrap (V : Int) = (V : Int) := u32_in _ (by omega)
            have HV := Lib.hid hV
            have hl11 : 11 ≤ rest.length := by omega
            clear HT HX hVt hvt hV hVb hd11
            go_enter Try.func16, Try.ntmps16
            go_wp2_with fail
            refine HZ.out.mono ?_
            rintro e w1 ⟨rfl, rfl⟩
            go_wp2_with fail
            refine HR2.out.mono ?_
            rintro e w2 ⟨rfl, rfl⟩
            go_wp2_with fail
            refine HU.out.mono ?_
            rintro e w3 ⟨rfl, rfl⟩
            go_wp2_with fail
            refine HS.out.mono ?_
            rintro e w4 ⟨rfl, rfl⟩
            go_wp2_with fail
            refine (HM.out _).mono ?_
            rintro e w5 ⟨rfl, rfl⟩
            by_cases hM : M = (U : Int)
            · have hb0 : (M != (U : Int)) = false := by simpa using hM
              by_cases h1 : t < 1
              · have hd1 : decide (t < 1) = true := by simpa using h1
                have hq : N = .stop (badI true) := by rw [HF.out]; rw [if_pos (.inr (.inl h1))]
                subst hq
                clear HF hM
                go_wp2_with fail
                go_ret3
                exact ⟨Below.refl _ _, rfl⟩
              · have hd1 : decide (t < 1) = false := by simpa using h1
                by_cases h4 : 4 < t
                · have hd4 : decide (4 < t) = true := by simpa using h4
                  have hq : N = .stop (badI true) := by rw [HF.out]; rw [if_pos (.inr (.inr h4))]
                  subst hq
                  clear HF hM
                  go_wp2_with fail
                  go_ret3
                  exact ⟨Below.refl _ _, rfl⟩
                · have hd4 : decide (4 < t) = false := by simpa using h4
                  have hM2 := Lib.hid hM
                  clear hM
                  go_wp2_with fail
                  refine HV.out.mono ?_
                  rintro e w6 ⟨rfl, rfl⟩
                  by_cases hL : (V : Int) = log
                  · have hb1 : ((V : Int) != log) = false := by simpa using hL
                    have hM := hM2.out
                    have HNL := Lib.hid hL
                    clear hL hd1 hd4 hM2
                    rcases (show t = 1 ∨ t = 2 ∨ t = 3 ∨ t = 4 by omega) with rfl | rfl | rfl | rfl
                    · cases g
                      ·
                        have hq : N = .frag 1 ((rest.drop (hdN true)).take n) (at_ + (rest.take (hdN true + n)).length) := by rw [HF.out, if_neg (by omega), if_neg (fun h => h.2 HNL.out), if_neg (by simp)]
                        subst hq
                        clear HF hM
                        have hcut := (Rd.cutIf HBS.out hcap (show hdN true ≤ rest.length by omega)).take n
                        rw [← List.map_take] at hcut
                        obtain ⟨A', hA'⟩ : ∃ A' : Option Addr, (if cap = hdN true then (some ⟨bb, off, none⟩ : Option Addr) else some ⟨bb, off + hdN true, none⟩) = A' := ⟨_, rfl⟩
                        rw [hA'] at hcut
                        have HCUT := Lib.hid hcut
                        clear hcut
                        have hcl : (0 : Int) ≤ (hdN true : Int) ∧ (hdN true : Int) ≤ (hdN true : Int) + (n : Int) ∧ (hdN true : Int) + (n : Int) ≤ (cap : Int) := by omega
                        go_wp2_with fail
                        go_quiet (fail)
                        go_wp2_with fail
                        have hbd := below_drewN (Below.refl w6.heap.size w6) nq
                        go_ret3
                        exact ⟨hbd, A', cap - hdN true, ret_three rfl (slice_len (by rw [List.length_take, List.length_drop]; omega)) rfl, Rd.next HCUT.out hbd⟩
                      ·
                        have hq : N = .stop (badI true) := by rw [HF.out]; rw [if_neg (by omega), if_neg (fun h => h.2 HNL.out), if_pos (by simp)]
                        subst hq
                        clear HF hM
                        go_wp2_with fail
                        go_ret3
                        exact ⟨Below.refl _ _, rfl⟩
                    · cases g
                      ·
                        have hq : N = .frag 2 ((rest.drop (hdN true)).take n) (at_ + (rest.take (hdN true + n)).length) := by rw [HF.out, if_neg (by omega), if_neg (fun h => h.2 HNL.out), if_neg (by simp)]
                        subst hq
                        clear HF hM
                        have hcut := (Rd.cutIf HBS.out hcap (show hdN true ≤ rest.length by omega)).take n
                        rw [← List.map_take] at hcut
                        obtain ⟨A', hA'⟩ : ∃ A' : Option Addr, (if cap = hdN true then (some ⟨bb, off, none⟩ : Option Addr) else some ⟨bb, off + hdN true, none⟩) = A' := ⟨_, rfl⟩
                        rw [hA'] at hcut
                        have HCUT := Lib.hid hcut
                        clear hcut
                        have hcl : (0 : Int) ≤ (hdN true : Int) ∧ (hdN true : Int) ≤ (hdN true : Int) + (n : Int) ∧ (hdN true : Int) + (n : Int) ≤ (cap : Int) := by omega
                        go_wp2_with fail
                        go_quiet (fail)
                        go_wp2_with fail
                        have hbd := below_drewN (Below.refl w6.heap.size w6) nq
                        go_ret3
                        exact ⟨hbd, A', cap - hdN true, ret_three rfl (slice_len (by rw [List.length_take, List.length_drop]; omega)) rfl, Rd.next HCUT.out hbd⟩
                      ·
                        have hq : N = .stop (badI true) := by rw [HF.out]; rw [if_neg (by omega), if_neg (fun h => h.2 HNL.out), if_pos (by simp)]
                        subst hq
                        clear HF hM
                        go_wp2_with fail
                        go_ret3
                        exact ⟨Below.refl _ _, rfl⟩
                    · cases g
                      ·
                        have hq : N = .stop (badI true) := by rw [HF.out]; rw [if_neg (by omega), if_neg (fun h => h.2 HNL.out), if_pos (by simp)]
                        subst hq
                        clear HF hM
                        go_wp2_with fail
                        go_ret3
                        exact ⟨Below.refl _ _, rfl⟩
                      ·
                        have hq : N = .frag 3 ((rest.drop (hdN true)).take n) (at_ + (rest.take (hdN true + n)).length) := by rw [HF.out, if_neg (by omega), if_neg (fun h => h.2 HNL.out), if_neg (by simp)]
                        subst hq
                        clear HF hM
                        have hcut := (Rd.cutIf HBS.out hcap (show hdN true ≤ rest.length by omega)).take n
                        rw [← List.map_take] at hcut
                        obtain ⟨A', hA'⟩ : ∃ A' : Option Addr, (if cap = hdN true then (some ⟨bb, off, none⟩ : Option Addr) else some ⟨bb, off + hdN true, none⟩) = A' := ⟨_, rfl⟩
                        rw [hA'] at hcut
                        have HCUT := Lib.hid hcut
                        clear hcut
                        have hcl : (0 : Int) ≤ (hdN true : Int) ∧ (hdN true : Int) ≤ (hdN true : Int) + (n : Int) ∧ (hdN true : Int) + (n : Int) ≤ (cap : Int) := by omega
                        go_wp2_with fail
                        go_quiet (fail)
                        go_wp2_with fail
                        have hbd := below_drewN (Below.refl w6.heap.size w6) nq
                        go_ret3
                        exact ⟨hbd, A', cap - hdN true, ret_three rfl (slice_len (by rw [List.length_take, List.length_drop]; omega)) rfl, Rd.next HCUT.out hbd⟩
                    · cases g
                      ·
                        have hq : N = .stop (badI true) := by rw [HF.out]; rw [if_neg (by omega), if_neg (fun h => h.2 HNL.out), if_pos (by simp)]
                        subst hq
                        clear HF hM
                        go_wp2_with fail
                        go_ret3
                        exact ⟨Below.refl _ _, rfl⟩
                      ·
                        have hq : N = .frag 4 ((rest.drop (hdN true)).take n) (at_ + (rest.take (hdN true + n)).length) := by rw [HF.out, if_neg (by omega), if_neg (fun h => h.2 HNL.out), if_neg (by simp)]
                        subst hq
                        clear HF hM
                        have hcut := (Rd.cutIf HBS.out hcap (show hdN true ≤ rest.length by omega)).take n
                        rw [← List.map_take] at hcut
                        obtain ⟨A', hA'⟩ : ∃ A' : Option Addr, (if cap = hdN true then (some ⟨bb, off, none⟩ : Option Addr) else some ⟨bb, off + hdN true, none⟩) = A' := ⟨_, rfl⟩
                        rw [hA'] at hcut
                        have HCUT := Lib.hid hcut
                        clear hcut
                        have hcl : (0 : Int) ≤ (hdN true : Int) ∧ (hdN true : Int) ≤ (hdN true : Int) + (n : Int) ∧ (hdN true : Int) + (n : Int) ≤ (cap : Int) := by omega
                        go_wp2_with fail
                        go_quiet (fail)
                        go_wp2_with fail
                        have hbd := below_drewN (Below.refl w6.heap.size w6) nq
                        go_ret3
                        exact ⟨hbd, A', cap - hdN true, ret_three rfl (slice_len (by rw [List.length_take, List.length_drop]; omega)) rfl, Rd.next HCUT.out hbd⟩
                  · have hb1 : ((V : Int) != log) = true := by simpa using hL
                    have hq : N = .stop 2 := by rw [HF.out, if_neg (fun h => by rcases h with h | h | h; exact h hM2.out; omega; omega), if_pos ⟨by simp, hL⟩]
                    subst hq
                    clear HF hL
                    go_wp2_with fail
                    go_ret3
                    exact ⟨Below.refl _ _, rfl⟩
            · have hb0 : (M != (U : Int)) = true := by simpa using hM
              have hq : N = .stop (badI true) := by rw [HF.out]; rw [if_pos (.inl hM)]
              subst hq
              clear HF hM
              go_wp2_with fail
              go_ret3
              exact ⟨Below.refl _ _, rfl⟩
  · rw [hz] at HZ
    have hn := HN.out
    rw [hz, if_pos rfl] at hn
    subst hn
    clear hz HN
    go_enter Try.func16, Try.ntmps16
    go_wp2_with fail
    refine HZ.out.mono ?_
    rintro e w1 ⟨rfl, rfl⟩
    go_wp2_with fail
    refine (r5End_any g _).mono ?_
    rintro e w2 ⟨rfl, rfl⟩
    go_wp2_with fail
    go_ret3
    exact ⟨Below.refl _ _, rfl⟩
end Go.Proofs.Ytlcnachblcacjaa
