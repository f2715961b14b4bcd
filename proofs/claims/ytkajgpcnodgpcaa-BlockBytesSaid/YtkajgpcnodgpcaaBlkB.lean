/-
  The document's writer of entries: an entry's bytes.
-/
import Derived.Test.YtkajgpcnodgpcaaBlkA
namespace Go.Proofs.Ytkajgpcnodgpcaa
set_option linter.unusedSimpArgs false
set_option linter.unusedVariables false
open Go.RowKit Go.IntWalk

theorem varB_len : ∀ n : Nat, (varB n).length ≤ n + 1 := by
  intro n
  induction n using Nat.strongRecOn with
  | _ n ih =>
    by_cases h : n < 128
    · rw [varB_last h]; simp
    · rw [varB_more h, List.length_cons]
      have := ih (n / 128) (by omega)
      omega
def entL (key : List UInt8) (val : ByteArray) (n : Nat) : List UInt8 := varB n ++ (varB (key.length - n) ++ (varB val.size ++ (key.drop n ++ val.data.toList)))
theorem grow_then {w w1 w2 : World} {row row' : Option Nat} (h : w.grownBy w1 row) (k : w1.grownBy w2 row') (hr : row' = row ∨ ∀ j, row' = some j → w.heap.size ≤ j) : w.grownBy w2 row :=
  ⟨k.os.trans h.os, k.tape.trans h.tape, k.output.trans h.output, Nat.le_trans h.size k.size, fun j hj hne => (k.block j (Nat.lt_of_lt_of_le hj h.size) (by
    rcases hr with e | hr
    · rw [e]; exact hne
    · intro e; have := hr j e.symm; omega)).trans (h.block j hj hne)⟩
theorem grow_below {w w' : World} (h : Below w.heap.size w w') (row : Option Nat) : w.grownBy w' row := ⟨h.os, h.tape, h.output, h.size, fun k hk _ => h.block k hk⟩
/-- where an appended slice lies: where it lay, or in a new block -/
def From (w : World) (v v' : Value) : Prop := v'.ownBlock = v.ownBlock ∨ ∀ j, v'.ownBlock = some j → w.heap.size ≤ j
theorem From.refl (w : World) (v : Value) : From w v v := .inl rfl
theorem From.step {w w1 : World} {v v1 v2 : Value} (h : From w v v1) (hs : w.heap.size ≤ w1.heap.size) (k : v2.ownBlock = v1.ownBlock ∨ v2.ownBlock = some w1.heap.size) : From w v v2 := by
  rcases k with k | k
  · rcases h with h | h
    · exact .inl (k.trans h)
    · exact .inr fun j hj => h j (k ▸ hj)
  · exact .inr fun j hj => by rw [k] at hj; injection hj with hj; omega
/-- what a step that grows the row v leaves: an owned slice that is not v -/
theorem From.grow {w w1 w2 : World} {v v1 : Value} (hf : From w v v1) (h : w.grownBy w1 v.ownBlock) (k : w1.grownBy w2 v1.ownBlock) : w.grownBy w2 v.ownBlock :=
  grow_then h k (hf.elim .inl fun h => .inr h)
theorem Rd.grown {w w' : World} {B : Nat} {A : Option Addr} {cs : List Value} {row : Option Nat} (h : Rd w B A cs) (hg : w.grownBy w' row) (hB : B ≤ w.heap.size) (hne : ∀ a, A = some a → some a.block ≠ row) : Rd w' B A cs := by
  rcases h with h | ⟨b, off, rfl, hb, hc⟩
  · exact .inl h
  · exact .inr ⟨b, off, rfl, hb, fun j u hu => (hg.cell_far ⟨b, off + j, none⟩ (by show b < w.heap.size; omega) (hne ⟨b, off, none⟩ rfl)).trans (hc j u hu)⟩

theorem Rd.cutIf {w : World} {B b off cap n : Nat} {l : List UInt8} (h : Bs w B (some ⟨b, off, none⟩) l) (hc : l.length ≤ cap) (hn : n ≤ l.length) :
    Bs w B (if cap = n then some ⟨b, off, none⟩ else some ⟨b, off + n, none⟩) (l.drop n) := by
  split
  · have : l.drop n = [] := List.drop_eq_nil_of_le (by omega)
    rw [this]; exact Rd.nil
  · have := Rd.cut h n; rwa [← List.map_drop] at this

set_option maxHeartbeats 2000000 in
set_option maxRecDepth 100000 in
theorem rentry_any (bv : Value) (bl kl : List UInt8) (b off cap : Nat) (val : ByteArray) (n base : Nat) (w : World) (hO : Own w base 5 1 bv bl.length (bl.map byteV)) (hbase : base ≤ w.heap.size)
    (hk : Bs w w.heap.size (some ⟨b, off, none⟩) kl) (hap : some b ≠ bv.ownBlock) (hn : n ≤ kl.length) (hcap : kl.length ≤ cap) (hkl : kl.length ≤ 2000) (hv : val.size ≤ 20000) (hbl : bl.length ≤ 100000000000) :
    Calls Try.prog 59 #[bv, .slice (some ⟨b, off, none⟩) kl.length cap, .string val, .int .i64 n] w fun e w' =>
      ∃ v', e = .returned v' ∧ Own w' base 5 1 v' (bl ++ entL kl val n).length ((bl ++ entL kl val n).map byteV) ∧ w.grownBy w' bv.ownBlock ∧ From w bv v' := by
  obtain ⟨i0, hi, hz0, hz1, hz2⟩ := info_parts info_byte
  obtain ⟨d, hd⟩ : ∃ d, kl.length - n = d := ⟨_, rfl⟩
  have hL1 := varB_len n
  have hL2 := varB_len d
  have hL3 := varB_len val.size
  have hsub : (kl.length : Int) - (n : Int) = (d : Int) := by omega
  have hV1 := fun w => rVarint_any n w (by omega)
  have hV2 := fun w => rVarint_any d w (by omega)
  have hV3 := fun w => rVarint_any val.size w (by omega)
  have HV1 := Lib.hid hV1
  have HV2 := Lib.hid hV2
  have HV3 := Lib.hid hV3
  have HO := Lib.hid hO
  have HK := Lib.hid hk
  have HA := Lib.hid hap
  clear hV1 hV2 hV3 hO hk hap
  go_enter Try.func59, Try.ntmps59
  go_wp2_with fail
  have HO0 := HO
  have HG0 := Lib.hid (World.grownBy.refl w bv.ownBlock)
  have HF0 := Lib.hid (From.refl w bv)
  refine (HV1.out _).mono ?_
  rintro e w1 ⟨x1, rfl, hb1, hx1⟩
  obtain ⟨A2, c2, rfl, hq1, hq2, hr1⟩ := hx1.rd
  have HO1 := Lib.hid (HO0.out.keep hb1 (Nat.le_refl _))
  have hs12 := hb1.size
  have HG1 := Lib.hid (grow_then HG0.out (grow_below hb1 bv.ownBlock) (.inl rfl))
  clear hx1 hb1 hq1 hq2
  go_wp2_with (at_builtin; (refine wpList_append _ rfl _ _ 23 23 rfl base 5 i0 (.int .u8 0) 1 1 Try.underlying23 hi hz0 hz1 hz2 rfl (by decide) _ _ _ rfl HO1.out _ _ _ rfl (Src.slice _ Try.underlying23 (by simp) hr1) ?c1 ?c2 ?c3 ?c4 ?_; (case c1 => (intro u hu; obtain ⟨x, _, rfl⟩ := List.mem_map.1 hu; rfl)); (case c2 => (unfold maxLen; omega)); (case c3 => omega); (case c4 => omega); intro v2 w2 hO1 hG1 hl1))
  clear hr1 HO1
  have HO2 := Lib.hid hO1
  have hG2 : w1.grownBy w2 (bv).ownBlock := hG1
  have hF2 : (v2).ownBlock = (bv).ownBlock ∨ (v2).ownBlock = some (w1).heap.size := hl1
  have hs2 := hG2.size
  have HF2 := Lib.hid (HF0.out.step (show w.heap.size ≤ w1.heap.size by omega) hF2)
  have HG2 := Lib.hid (HF0.out.grow HG1.out hG2)
  clear hO1 hG1 hl1 hG2 hF2 HG1
  refine (HV2.out _).mono ?_
  rintro e w3 ⟨x1, rfl, hb1, hx1⟩
  obtain ⟨A4, c4, rfl, hq1, hq2, hr1⟩ := hx1.rd
  have HO1 := Lib.hid (HO2.out.keep hb1 (Nat.le_refl _))
  have hs14 := hb1.size
  have HG1 := Lib.hid (grow_then HG2.out (grow_below hb1 bv.ownBlock) (.inl rfl))
  clear hx1 hb1 hq1 hq2
  go_wp2_with (at_builtin; (refine wpList_append _ rfl _ _ 23 23 rfl base 5 i0 (.int .u8 0) 1 1 Try.underlying23 hi hz0 hz1 hz2 rfl (by decide) _ _ _ rfl HO1.out _ _ _ rfl (Src.slice _ Try.underlying23 (by simp) hr1) ?c1 ?c2 ?c3 ?c4 ?_; (case c1 => (intro u hu; obtain ⟨x, _, rfl⟩ := List.mem_map.1 hu; rfl)); (case c2 => (unfold maxLen; omega)); (case c3 => omega); (case c4 => omega); intro v4 w4 hO1 hG1 hl1))
  clear hr1 HO1
  have HO4 := Lib.hid hO1
  have hG2 : w3.grownBy w4 (v2).ownBlock := hG1
  have hF2 : (v4).ownBlock = (v2).ownBlock ∨ (v4).ownBlock = some (w3).heap.size := hl1
  have hs4 := hG2.size
  have HF4 := Lib.hid (HF2.out.step (show w.heap.size ≤ w3.heap.size by omega) hF2)
  have HG4 := Lib.hid (HF2.out.grow HG1.out hG2)
  clear hO1 hG1 hl1 hG2 hF2 HG1
  refine (HV3.out _).mono ?_
  rintro e w5 ⟨x1, rfl, hb1, hx1⟩
  obtain ⟨A6, c6, rfl, hq1, hq2, hr1⟩ := hx1.rd
  have HO5 := Lib.hid (HO4.out.keep hb1 (Nat.le_refl _))
  have hs5 := hb1.size
  have HG5 := Lib.hid (grow_then HG4.out (grow_below hb1 bv.ownBlock) (.inl rfl))
  clear hx1 hb1 hq1 hq2
  have hdl : (kl.drop n).length = d := by rw [List.length_drop]; exact hd
  have hlen : (bl ++ entL kl val n).length = bl.length + (varB n).length + (varB d).length + (varB val.size).length + d + val.size := by
    unfold entL
    rw [hd]
    simp only [List.length_append, hdl, Array.length_toList]
    show _ + (_ + (_ + (_ + (d + val.size)))) = _
    omega
  have hlist : (bl ++ entL kl val n).map byteV = bl.map byteV ++ (varB n).map byteV ++ (varB d).map byteV ++ (varB val.size).map byteV ++ (kl.drop n).map byteV ++ val.data.toList.map byteV := by
    unfold entL
    rw [hd]
    simp only [List.map_append, List.append_assoc]
  have HLEN := Lib.hid hlen
  have HLIST := Lib.hid hlist
  clear hlen hlist
  go_wp2_with (at_builtin; first
    | (refine wpList_append _ rfl _ _ 23 23 rfl base 5 i0 (.int .u8 0) 1 1 Try.underlying23 hi hz0 hz1 hz2 rfl (by decide) _ _ _ rfl HO5.out _ _ _ rfl (Src.slice _ Try.underlying23 (by simp) hr1) ?c1 ?c2 ?c3 ?c4 ?_; (case c1 => (intro u hu; obtain ⟨x, _, rfl⟩ := List.mem_map.1 hu; rfl)); (case c2 => (unfold maxLen; omega)); (case c3 => omega); (case c4 => omega); intro v6 w6 hO6 hG6 hl6; have hs6 := hG6.size; have HF6 := Lib.hid (HF4.out.step (show w.heap.size ≤ w5.heap.size by omega) (show v6.ownBlock = v4.ownBlock ∨ v6.ownBlock = some w5.heap.size from hl6)); have HG6 := Lib.hid (HF4.out.grow HG5.out (show w5.grownBy w6 v4.ownBlock from hG6)); have HO6 := Lib.hid hO6; have HR6 := Lib.hid (Rd.cutIf (HK.out.grown HG6.out (Nat.le_refl _) (fun a ha => by injection ha with ha; rw [← ha]; exact HA.out)) hcap hn); clear hO6 hG6 hl6)
    | (refine wpList_append _ rfl _ _ 23 23 rfl base 5 i0 (.int .u8 0) 1 1 Try.underlying23 hi hz0 hz1 hz2 rfl (by decide) _ _ _ rfl HO6.out _ d ((kl.drop n).map byteV) rfl (Src.slice _ Try.underlying23 (by rw [List.length_map, hdl, Nat.mul_one]) HR6.out) ?c1 ?c2 ?c3 ?c4 ?_; (case c1 => (intro u hu; obtain ⟨x, _, rfl⟩ := List.mem_map.1 hu; rfl)); (case c2 => (unfold maxLen; omega)); (case c3 => omega); (case c4 => omega); intro v7 w7 hO7 hG7 hl7; have hs7 := hG7.size; have HF7 := Lib.hid (HF6.out.step (show w.heap.size ≤ w6.heap.size by omega) (show v7.ownBlock = v6.ownBlock ∨ v7.ownBlock = some w6.heap.size from hl7)); have HG7 := Lib.hid (HF6.out.grow HG6.out (show w6.grownBy w7 v6.ownBlock from hG7)); have HO7 := Lib.hid hO7; clear hO7 hG7 hl7)
    | (refine wpList_append _ rfl _ _ 23 9 rfl base 5 i0 (.int .u8 0) 1 1 Try.underlying23 hi hz0 hz1 hz2 rfl (by decide) _ _ _ rfl HO7.out _ _ _ rfl (Src.str _ Try.underlying9) ?c1 ?c2 ?c3 ?c4 ?_; (case c1 => (intro u hu; obtain ⟨x, _, rfl⟩ := List.mem_map.1 hu; rfl)); (case c2 => (unfold maxLen; omega)); (case c3 => omega); (case c4 => omega); intro v8 w8 hO8 hG8 hl8; have HF8 := Lib.hid (HF7.out.step (show w.heap.size ≤ w7.heap.size by omega) (show v8.ownBlock = v7.ownBlock ∨ v8.ownBlock = some w7.heap.size from hl8)); have HG8 := Lib.hid (HF7.out.grow HG7.out (show w7.grownBy w8 v7.ownBlock from hG8)); have HO8 := Lib.hid hO8; clear hO8 hG8 hl8))
  all_goals go_ret
  all_goals exact ⟨v8, rfl, by have hfin := HO8.out; rw [← HLIST.out, ← HLEN.out] at hfin; simpa using hfin, HG8.out, HF8.out⟩
end Go.Proofs.Ytkajgpcnodgpcaa
