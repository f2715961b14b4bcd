/-
  A tombstone put in its place: slices.Insert walked.
-/
import Derived.Test.YtodnojpolkdlmaaTmD
import Derived.Lib.Overlaps
import Derived.Lib.AppendZerosOnto
import Derived.Shelf.Spec.SlicesInsert
import Derived.Laws.NewBlocks
namespace Go.Proofs.Ytodnojpolkdlmaa
set_option linter.unusedSimpArgs false
set_option linter.unusedVariables false
open Go.RowKit Go.IntWalk

/-- cs laid over L from place o on -/
def sp (L : List Value) (o : Nat) (cs : List Value) : List Value := L.take o ++ cs ++ L.drop (o + cs.length)
theorem sp_len {L cs : List Value} {o : Nat} (h : o + cs.length ≤ L.length) : (sp L o cs).length = L.length := by unfold sp; simp; omega
theorem sp_get {L cs : List Value} {o : Nat} (h : o + cs.length ≤ L.length) (j : Nat) : (sp L o cs)[j]? = if j < o then L[j]? else if j < o + cs.length then cs[j - o]? else L[j]? := by
  unfold sp
  by_cases h1 : j < o
  · rw [if_pos h1, List.append_assoc, List.getElem?_append_left (by simp; omega), List.getElem?_take, if_pos h1]
  · rw [if_neg h1]
    by_cases h2 : j < o + cs.length
    · rw [if_pos h2, List.getElem?_append_left (by simp; omega), List.getElem?_append_right (by simp; omega)]
      simp only [List.length_take]
      congr 1; omega
    · rw [if_neg h2, List.getElem?_append_right (by simp; omega), List.getElem?_drop]
      simp only [List.length_append, List.length_take]
      congr 1; omega
/-- D moved behind X, X laid ahead of it: in either order -/
theorem sp_two {L X D : List Value} {a b : Nat} (hb : b = a + X.length) (h : b + D.length ≤ L.length) : (sp (sp L b D) a X).take (b + D.length) = L.take a ++ (X ++ D) := by
  have hl := sp_len h
  apply List.ext_getElem?
  intro j
  rw [List.getElem?_take]
  by_cases h0 : j < b + D.length
  · rw [if_pos h0, sp_get (by omega), sp_get h]
    by_cases h1 : j < a
    · rw [if_pos h1, if_pos (by omega), List.getElem?_append_left (by simp; omega), List.getElem?_take, if_pos h1]
    · rw [if_neg h1, List.getElem?_append_right (by simp; omega)]
      have e : j - (L.take a).length = j - a := by simp; omega
      rw [e]
      by_cases h2 : j < a + X.length
      · rw [if_pos h2, List.getElem?_append_left (by omega)]
      · rw [if_neg h2, if_neg (by omega), if_pos h0, List.getElem?_append_right (by omega)]
        congr 1; omega
  · rw [if_neg h0, List.getElem?_eq_none (by simp; omega)]
theorem sp_two' {L X D : List Value} {a b : Nat} (hb : b = a + X.length) (h : b + D.length ≤ L.length) : (sp (sp L a X) b D).take (b + D.length) = L.take a ++ (X ++ D) := by
  have hl : (sp L a X).length = L.length := sp_len (by omega)
  apply List.ext_getElem?
  intro j
  rw [List.getElem?_take]
  by_cases h0 : j < b + D.length
  · rw [if_pos h0, sp_get (by omega), sp_get (by omega)]
    by_cases h1 : j < a
    · rw [if_pos (by omega), if_pos h1, List.getElem?_append_left (by simp; omega), List.getElem?_take, if_pos h1]
    · rw [List.getElem?_append_right (by simp; omega)]
      have e : j - (L.take a).length = j - a := by simp; omega
      rw [e]
      by_cases h2 : j < a + X.length
      · rw [if_pos (by omega), if_neg h1, if_pos h2, List.getElem?_append_left (by omega)]
      · rw [if_neg (by omega), if_pos h0, List.getElem?_append_right (by omega)]
        congr 1; omega
  · rw [if_neg h0, List.getElem?_eq_none (by simp; omega)]
/-- copy, elements of any size: all is read ahead of the first write -/
theorem run_copyW {P : Program} (w : World) (dT sT ty elem t : TypeId) (i : TypeInfo) (g o dLen dCap B : Nat) (A : Option Addr) (sLen sCap n : Nat) (cs : List Value) (cur : Array Value) (fz : Nat × Nat)
    (hu : P.underlying dT = some (.slice elem)) (hi : P.info? elem = some i) (hn : n = Nat.min sLen dLen) (hl : cs.length = n * i.size) (hr : Rd w B A cs)
    (hg : w.heap[g]? = some (.cells cur t fz)) (hfz : okFz fz cur.size) (hfit : o + cs.length ≤ cur.size) (h1 : ∀ v ∈ cs, v.oneCell' = true) :
    (Builtin.copy_ #[dT, sT] ty #[.slice (some ⟨g, o, none⟩) dLen dCap, .slice A sLen sCap]).run P w = .ok (goInt n) (w.setRow g (sp cur.toList o cs).toArray) := by
  have hst := run_storeCells_ok P g o t fz cs 0 cur w hg hfz (by simpa using hfit) h1
  simp only [Nat.add_zero] at hst
  have hf : (Builtin.firstCells i.size n (.slice A sLen sCap)).run P w = .ok cs.toArray w := by
    have := run_firstCells_rd (P := P) w i.size n sCap B A cs hl hr
    rcases A with _ | a <;> exact this
  simp [Builtin.copy_, run_underlying hu, Builtin.lenOf, sizeOf, typeInfo, hi, ← hn, hf, hst, sp]
theorem info_tomb : (Try.prog.info? 71).map (fun i => (i.zero, i.size, i.bytes)) = some (some (.agg #[.string ⟨#[]⟩, .string ⟨#[]⟩, .int .u64 0]), 3, 40) := by kernel_rfl
theorem tbsC_app (a b : List Tb) : tbsC (a ++ b) = tbsC a ++ tbsC b := by unfold tbsC; exact List.flatMap_append
theorem tbsC_one (x : Tb) (l : List Tb) : tbsC (x :: l) = tbC x ++ tbsC l := rfl
theorem tbsC_take (l : List Tb) : ∀ i, i ≤ l.length → (tbsC l).take (i * 3) = tbsC (l.take i) := by
  intro i hi
  have h := tbsC_app (l.take i) (l.drop i)
  rw [List.take_append_drop] at h
  rw [h]
  have e : (tbsC (l.take i)).length = i * 3 := by rw [tbsC_len]; simp; omega
  rw [← e]
  exact List.take_left
theorem tbsC_drop (l : List Tb) : ∀ i, i ≤ l.length → (tbsC l).drop (i * 3) = tbsC (l.drop i) := by
  intro i hi
  have h := tbsC_app (l.take i) (l.drop i)
  rw [List.take_append_drop] at h
  rw [h]
  have e : (tbsC (l.take i)).length = i * 3 := by rw [tbsC_len]; simp; omega
  rw [← e]
  exact List.drop_left
theorem tb_one (l : List Tb) : ∀ v ∈ tbsC l, v.oneCell' = true := by
  intro v hv
  obtain ⟨x, _, hx⟩ := List.mem_flatMap.1 hv
  simp only [tbC, List.mem_cons, List.not_mem_nil, or_false] at hx
  rcases hx with rfl | rfl | rfl <;> rfl
theorem ins_row {w : World} {vb : Nat} {x : Tb} (hv : Blk w vb 71 #[.string x.b, .string x.e, .int .u64 x.s]) : Rd w w.heap.size (some ⟨vb, 0, none⟩) (tbC x) := by
  refine .inr ⟨vb, 0, rfl, hv.lt, fun j u hu => ?_⟩
  rw [Nat.zero_add, hv.cell]
  simpa [tbC] using hu
set_option maxHeartbeats 2000000 in
set_option maxRecDepth 100000 in
theorem insT_nil (x : Tb) (vb base : Nat) (w : World) (hv : Blk w vb 71 #[.string x.b, .string x.e, .int .u64 x.s]) (hbase : base ≤ w.heap.size) :
    Calls Try.prog 26 #[.slice none 0 0, .int .i64 0, .slice (some ⟨vb, 0, none⟩) 1 1] w fun e w' => ∃ v', e = .returned v' ∧ Own w' base 71 3 v' 1 (tbC x) ∧ w.grownBy w' none ∧ ∃ k, v'.ownBlock = some k ∧ w.heap.size ≤ k := by
  have ho : Own w base 71 3 (.slice none 0 0) ([] : List Tb).length (tbsC []) := Own.nil _ _ _ _
  obtain ⟨i0, hi, hz0, hz1, hz2⟩ := info_parts info_tomb
  have HO := Lib.hid ho
  have HV := Lib.hid hv
  clear ho hv
  go_enter Try.func26, Try.ntmps26
  go_wp2_with (at_builtin; go_loud (refine wpList_append _ rfl _ _ 51 51 rfl base 71 i0 _ 3 40 Try.underlying51 hi hz0 hz1 hz2 rfl (by decide) (.slice none 0 0) ([] : List Tb).length (tbsC ([] : List Tb)) rfl HO.out _ 1 (tbC x) rfl (Src.slice _ Try.underlying51 (by simp [tbC]) (ins_row HV.out)) ?c1 ?c2 ?c3 ?c4 ?_; (case c1 => (intro u hu; exact tb_one [x] u (by rw [tbsC_one, show tbsC [] = [] from rfl, List.append_nil]; exact hu))); (case c2 => (unfold maxLen; (try simp only [List.length_nil]); omega)); (case c3 => ((try simp only [List.length_nil]); omega)); (case c4 => omega); intro v1 w1 hO1 hG1 hl1; have HO1 := Lib.hid hO1; have HG1 := Lib.hid hG1; have HL1 := Lib.hid hl1; clear hO1 hG1 hl1))
  go_ret
  refine ⟨v1, rfl, by simpa [tbsC] using HO1.out, HG1.out, ?_⟩
  rcases HL1.out with h | h
  · obtain ⟨k, c, hk, -, -⟩ := HO1.out.form (by simp)
    rw [hk] at h
    simp [Value.ownBlock] at h
  · exact ⟨_, h, Nat.le_refl _⟩
set_option maxHeartbeats 2000000 in
set_option maxRecDepth 100000 in
theorem insT_end (g c : Nat) (l : List Tb) (x : Tb) (vb base : Nat) (w : World) (hl : l.length ≤ 1000000) (hc : l.length ≤ c ∧ c ≤ maxLen) (ho : Own w base 71 3 (.slice (some ⟨g, 0, none⟩) l.length c) l.length (tbsC l)) (hv : Blk w vb 71 #[.string x.b, .string x.e, .int .u64 x.s]) (hbase : base ≤ w.heap.size) :
    Calls Try.prog 26 #[.slice (some ⟨g, 0, none⟩) l.length c, .int .i64 l.length, .slice (some ⟨vb, 0, none⟩) 1 1] w fun e w' => ∃ v', e = .returned v' ∧ Own w' base 71 3 v' (l.length + 1) (tbsC l ++ tbC x) ∧ w.grownBy w' (some g) ∧ (v'.ownBlock = some g ∨ ∃ k, v'.ownBlock = some k ∧ w.heap.size ≤ k) := by
  obtain ⟨hc1, hc2⟩ := hc
  unfold maxLen at hc2
  obtain ⟨i0, hi, hz0, hz1, hz2⟩ := info_parts info_tomb
  have HO := Lib.hid ho
  have HV := Lib.hid hv
  clear ho hv
  go_enter Try.func26, Try.ntmps26
  go_wp2_with (at_builtin; go_loud (refine wpList_append _ rfl _ _ 51 51 rfl base 71 i0 _ 3 40 Try.underlying51 hi hz0 hz1 hz2 rfl (by decide) (.slice (some ⟨g, 0, none⟩) l.length _) l.length (tbsC l) rfl HO.out _ 1 (tbC x) rfl (Src.slice _ Try.underlying51 (by simp [tbC]) (ins_row HV.out)) ?c1 ?c2 ?c3 ?c4 ?_; (case c1 => (intro u hu; exact tb_one [x] u (by rw [tbsC_one, show tbsC [] = [] from rfl, List.append_nil]; exact hu))); (case c2 => (unfold maxLen; (try simp only [List.length_nil]); omega)); (case c3 => ((try simp only [List.length_nil]); omega)); (case c4 => omega); intro v1 w1 hO1 hG1 hl1; have HO1 := Lib.hid hO1; have HG1 := Lib.hid hG1; have HL1 := Lib.hid hl1; clear hO1 hG1 hl1))
  all_goals
    go_ret
    refine ⟨v1, rfl, HO1.out, HG1.out, ?_⟩
    rcases HL1.out with h | h
    · exact .inl h
    · exact .inr ⟨_, h, Nat.le_refl _⟩
end Go.Proofs.Ytodnojpolkdlmaa
