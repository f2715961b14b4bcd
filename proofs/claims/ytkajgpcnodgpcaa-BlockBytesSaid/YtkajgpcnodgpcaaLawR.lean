/-
  Opening a slice whose elements have several cells; a list of entries.
-/
import Derived.Test.YtkajgpcnodgpcaaLaw
import Derived.Test.YtkajgpcnodgpcaaBlkC
import Derived.Deep.Slices
import Derived.Deep.Strs
import Derived.ChangeSame
namespace Go.Proofs.Ytkajgpcnodgpcaa
open Go.ChangeShapes Go.WideShapes Go.ChangeAt Go.RowKit Go.Deep

theorem flatMap_at (C : Nat) (V : Nat → List Value) : ∀ (n i j : Nat), (∀ k, k < n → (V k).length = C) → i < n → j < C → ((List.range n).flatMap V)[i * C + j]? = (V i)[j]? := by
  intro n
  induction n with
  | zero => intro i j _ h; omega
  | succ n ih =>
    intro i j hV hi hj
    have hl : ((List.range n).flatMap V).length = n * C := by
      rw [List.length_flatMap]
      have : (List.range n).map (fun k => (V k).length) = List.replicate n C := by
        apply List.ext_getElem
        · simp
        · intro k h1 h2
          simp only [List.getElem_map, List.getElem_range, List.getElem_replicate]
          exact hV k (by simp at h2; omega)
      rw [this, List.sum_replicate_nat]
    rw [List.range_succ, List.flatMap_append]
    by_cases h : i < n
    · rw [List.getElem?_append_left]
      · exact ih i j (fun k hk => hV k (by omega)) h hj
      · rw [hl]
        have : (i + 1) * C ≤ n * C := Nat.mul_le_mul_right C h
        rw [Nat.add_mul] at this; omega
    · have hin : i = n := by omega
      subst hin
      rw [List.getElem?_append_right (by rw [hl]; omega), hl]
      simp
section
variable {H : Type} {enc : TypeId × Value → H}
theorem add_plain {W : World} {a : Addr} (h : (W.cell? (a.add 0)).isSome = true) : a.spot = none ∧ (∀ i, a.add i = ⟨a.block, a.off + i, none⟩) ∧ a.block < W.heap.size := by
  have hsp : a.spot = none := by
    cases hs : a.spot with
    | none => rfl
    | some y =>
      simp only [Addr.add, if_true, World.cell?, hs] at h
      split at h <;> simp at h
  have hadd : ∀ i, a.add i = ⟨a.block, a.off + i, none⟩ := fun i => by
    unfold Addr.add
    split
    · rename_i h; subst h; cases a; simp_all
    · simp
  refine ⟨hsp, hadd, ?_⟩
  rw [Option.isSome_iff_exists] at h
  obtain ⟨x, hx⟩ := h
  simpa [block_add] using World.block_lt_of_cell? _ _ hx
set_option maxRecDepth 100000 in
theorem open_rows {W : World} {r : Reach} {b0 : Nat} {v : Value} {d : DataW H} {p : List MemPlace} {t e : TypeId} (C B : Nat) (ht : Try.prog.underlying t = some (.slice e)) (hC : Try.prog.cellsOf e = C) (hC0 : 0 < C) (hB : Try.prog.bytesOf e = B)
    (hv : Value.okWide Try.prog W r b0 t v) (h : DataW.Trod enc Try.prog W 0 (fun _ => true) true t v d p) (hw : wt t d) :
    ∃ (A : Option Addr) (n cap : Nat) (V : Nat → List Value), v = .slice A n cap ∧ n ≤ cap ∧ cap ≤ maxLen ∧ cap * B ≤ 140737488351232 ∧ Rd W W.heap.size A ((List.range n).flatMap V) ∧
      ∀ i, i < n → (V i).length = C ∧ ∃ fuel x, DataW.trod enc Try.prog W 0 (fun _ => true) true fuel e (V i) = some x := by
  obtain ⟨A, n, cap, rfl⟩ := okWide_slice ht hv
  obtain ⟨fuel, hf⟩ := h
  rcases open_slice ht hf with ⟨hcs, hx⟩ | ⟨a, len, cap', m, n', D, Pl, hcs, _, hl, hm, hmm, hx, hi⟩
  · simp [Value.cells] at hcs
    obtain ⟨rfl, rfl, rfl⟩ := hcs
    exact ⟨none, 0, 0, fun _ => [], rfl, Nat.le_refl _, by unfold maxLen; omega, by omega, Rd.nil, fun i hi => by omega⟩
  · simp [Value.cells] at hcs
    obtain ⟨rfl, rfl, rfl⟩ := hcs
    simp only [Prod.mk.injEq] at hx
    obtain ⟨rfl, rfl⟩ := hx
    simp only [if_true] at hmm
    obtain rfl : cap = m := hmm.symm
    have hcap : cap * B ≤ 140737488351232 := by
      simp only [wt, DataW.weights, ht, List.length_map, List.length_range, hB, List.all_cons, Bool.and_eq_true] at hw
      have := of_decide_eq_true hw.1
      simp only [reachBytes] at this
      rw [show n + (cap - n) = cap by omega] at this
      omega
    rw [hC] at hi
    obtain ⟨V, hV⟩ := choose_lt (α := List Value) (n := cap) (p := fun i cs' => W.cells? 0 (a.add (i * C)) C = some cs' ∧ DataW.trod enc Try.prog W 0 (fun _ => true) true n' e cs' = some (D i, Pl i)) hi
    have hlen : ∀ i, i < cap → (V i).length = C := fun i h => (World.cells?_some (hV i h).1).2.1
    refine ⟨some a, n, cap, V, rfl, hl, hm, hcap, ?_, fun i h => ⟨hlen i (by omega), n', _, (hV i (by omega)).2⟩⟩
    by_cases h0 : n = 0
    · subst h0; exact .inl rfl
    · have hc0 := (World.cells?_some (hV 0 (by omega)).1).2.2 0 hC0
      have hs0 : (W.cell? (a.add 0)).isSome = true := by
        rw [Nat.zero_mul] at hc0
        have e0 : (a.add 0).add 0 = a.add 0 := by rw [Go.Deep.add_add]
        rw [e0] at hc0
        rw [hc0, List.getElem?_eq_getElem (by rw [hlen 0 (by omega)]; exact hC0)]
        rfl
      obtain ⟨hsp, hadd, hblk⟩ := add_plain hs0
      refine .inr ⟨a.block, a.off, by cases a; simp_all, hblk, fun j u hu => ?_⟩
      have hjl := (List.getElem?_eq_some_iff.1 hu).1
      have hln : ((List.range n).flatMap V).length = n * C := by
        rw [List.length_flatMap]
        have : (List.range n).map (fun k => (V k).length) = List.replicate n C := by
          apply List.ext_getElem
          · simp
          · intro k h1 h2
            simp only [List.getElem_map, List.getElem_range, List.getElem_replicate]
            exact hlen k (by simp at h2; omega)
        rw [this, List.sum_replicate_nat]
      rw [hln] at hjl
      have hjd : j / C < n := (Nat.div_lt_iff_lt_mul hC0).2 hjl
      have hjm : j % C < C := Nat.mod_lt _ hC0
      have hj : j / C * C + j % C = j := by rw [Nat.mul_comm]; exact Nat.div_add_mod j C
      rw [← hj, flatMap_at C V n (j / C) (j % C) (fun k hk => hlen k (by omega)) hjd hjm] at hu
      have hc := (World.cells?_some (hV (j / C) (by omega)).1).2.2 (j % C) hjm
      rw [Go.Deep.add_add, hj, hadd j] at hc
      rw [hc]; exact hu
set_option maxRecDepth 100000 in
theorem key_form' {W : World} {n : Nat} {c0 c1 c2 : Value} {y : DataW H × List MemPlace}
    (h : DataW.trod enc Try.prog W 0 (fun _ => true) true n 33 [c0, c1, c2] = some y) : ∃ (u : ByteArray) (s k : Int), c0 = .string u ∧ c1 = .int .u64 s ∧ c2 = .int .i64 k ∧ 0 ≤ s ∧ s ≤ 18446744073709551615 ∧ -9223372036854775808 ≤ k ∧ k ≤ 9223372036854775807 := by
  obtain ⟨y0, y1, y2, m, _, _, e0, e1, e2⟩ := trod_struct3 Try.underlying33 h
  obtain ⟨s0, h0, _⟩ := DataW.trod_string Try.underlying9 e0
  obtain ⟨s1, h1, _, w1⟩ := DataW.trod_int Try.underlying31 e1
  obtain ⟨s2, h2, _, w2⟩ := DataW.trod_int Try.underlying3 e2
  have k0 : Try.prog.cellsOf 9 = 1 := by kernel_rfl
  have k1 : Try.prog.cellsOf 31 = 1 := by kernel_rfl
  have k2 : Try.prog.cellsOf 3 = 1 := by kernel_rfl
  simp [k0] at h0
  simp [k1] at h1
  simp [k2] at h2
  refine ⟨s0, s1, s2, h0, h1, h2, ?_⟩
  simp [Lit.wf, IntKind.min, IntKind.max, IntKind.signed, IntKind.bits] at w1 w2
  omega
set_option maxRecDepth 100000 in
theorem entry_form {W : World} {n : Nat} {cs : List Value} {y : DataW H × List MemPlace} (hl : cs.length = 4)
    (h : DataW.trod enc Try.prog W 0 (fun _ => true) true n 48 cs = some y) : ∃ e : E, cs = entC e ∧ 0 ≤ e.k.s ∧ e.k.s ≤ 18446744073709551615 ∧ -9223372036854775808 ≤ e.k.k ∧ e.k.k ≤ 9223372036854775807 := by
  match cs, hl with
  | [c0, c1, c2, c3], _ =>
    obtain ⟨y0, y1, m, _, _, e0, e1⟩ := trod_struct2 Try.underlying48 h
    have kk : Try.prog.cellsOf 33 = 3 := by kernel_rfl
    have k0 : Try.prog.cellsOf 9 = 1 := by kernel_rfl
    simp [kk] at e0
    simp [k0] at e1
    obtain ⟨u, s, k, rfl, rfl, rfl, hb⟩ := key_form' e0
    obtain ⟨v, h0, _⟩ := DataW.trod_string Try.underlying9 e1
    simp at h0
    subst h0
    exact ⟨⟨⟨u, s, k⟩, v⟩, rfl, hb⟩
theorem entsC_map (f : Nat → E) (V : Nat → List Value) (n : Nat) (h : ∀ i, i < n → V i = entC (f i)) : (List.range n).flatMap V = entsC ((List.range n).map f) := by
  unfold entsC
  rw [List.flatMap_map, List.flatMap_def, List.flatMap_def]
  congr 1
  exact List.map_congr_left fun i hi => h i (by simpa using hi)
set_option maxRecDepth 100000 in
theorem open_ents {W : World} {r : Reach} {b0 : Nat} {v : Value} {d : DataW H} {p : List MemPlace} (hv : Value.okWide Try.prog W r b0 22 v)
    (h : DataW.Trod enc Try.prog W 0 (fun _ => true) true 22 v d p) (hw : wt 22 d) :
    ∃ (A : Option Addr) (cap : Nat) (l : List E), v = .slice A l.length cap ∧ l.length ≤ cap ∧ cap * 48 ≤ 140737488351232 ∧ Rd W W.heap.size A (entsC l) ∧
      ∀ e ∈ l, 0 ≤ e.k.s ∧ e.k.s ≤ 18446744073709551615 ∧ -9223372036854775808 ≤ e.k.k ∧ e.k.k ≤ 9223372036854775807 := by
  obtain ⟨A, n, cap, V, rfl, hn, _, hcap, hr, hV⟩ := open_rows (t := 22) 4 48 Try.underlying22 (by kernel_rfl) (by omega) (by kernel_rfl) hv h hw
  have : Inhabited E := ⟨⟨⟨⟨#[]⟩, 0, 0⟩, ⟨#[]⟩⟩⟩
  obtain ⟨f, hf⟩ := choose_lt (α := E) (n := n) (p := fun i e => V i = entC e ∧ 0 ≤ e.k.s ∧ e.k.s ≤ 18446744073709551615 ∧ -9223372036854775808 ≤ e.k.k ∧ e.k.k ≤ 9223372036854775807) (fun i hi => by
    obtain ⟨h1, fuel, x, h2⟩ := hV i hi
    exact entry_form h1 h2)
  refine ⟨A, cap, (List.range n).map f, by simp, by simpa using hn, hcap, ?_, ?_⟩
  · rw [← entsC_map f V n (fun i hi => (hf i hi).1)]; exact hr
  · intro e he
    obtain ⟨i, hi, rfl⟩ := List.mem_map.1 he
    exact (hf i (by simpa using hi)).2
end
end Go.Proofs.Ytkajgpcnodgpcaa
