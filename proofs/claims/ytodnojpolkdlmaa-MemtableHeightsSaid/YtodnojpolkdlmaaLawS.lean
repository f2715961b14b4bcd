/-
  Opening a slice whose elements have several cells; a list of records.
-/
import Derived.Test.YtodnojpolkdlmaaLaw
import Derived.Test.YtodnojpolkdlmaaTmA
import Derived.Deep.Slices
import Derived.Deep.Strs
import Derived.ChangeSame
namespace Go.Proofs.Ytodnojpolkdlmaa
open Go.ChangeShapes Go.WideShapes Go.ChangeAt Go.RowKit Go.Deep

theorem flatMap_at (C : Nat) (V : Nat → List Value) : ∀ (n i j : Nat), (∀ k, k < n → (V k).length = C) → i < n → j < C → ((List.range n).flatMap V)[i * C + j]? = (V i)[j]? := by
  intro n
  induction n with
  | zero => intro i j _ h; omega
  | succ n ih =>
    intro i j hV hi hj
    have hl : ((List.range n).flatMap V).length = n * C := by
      rw [List.length_flatMap]
      have : (List.range n).map (fun k => (V k).length) = List.replicate n C := by
        apply List.ext_getElem
        · simp
        · intro k h1 h2
          simp only [List.getElem_map, List.getElem_range, List.getElem_replicate]
          exact hV k (by simp at h2; omega)
      rw [this, List.sum_replicate_nat]
    rw [List.range_succ, List.flatMap_append]
    by_cases h : i < n
    · rw [List.getElem?_append_left]
      · exact ih i j (fun k hk => hV k (by omega)) h hj
      · rw [hl]
        have : (i + 1) * C ≤ n * C := Nat.mul_le_mul_right C h
        rw [Nat.add_mul] at this; omega
    · have hin : i = n := by omega
      subst hin
      rw [List.getElem?_append_right (by rw [hl]; omega), hl]
      simp
section
variable {H : Type} {enc : TypeId × Value → H}
theorem add_plain {W : World} {a : Addr} (h : (W.cell? (a.add 0)).isSome = true) : a.spot = none ∧ (∀ i, a.add i = ⟨a.block, a.off + i, none⟩) ∧ a.block < W.heap.size := by
  have hsp : a.spot = none := by
    cases hs : a.spot with
    | none => rfl
    | some y =>
      simp only [Addr.add, if_true, World.cell?, hs] at h
      split at h <;> simp at h
  have hadd : ∀ i, a.add i = ⟨a.block, a.off + i, none⟩ := fun i => by
    unfold Addr.add
    split
    · rename_i h; subst h; cases a; simp_all
    · simp
  refine ⟨hsp, hadd, ?_⟩
  rw [Option.isSome_iff_exists] at h
  obtain ⟨x, hx⟩ := h
  simpa [block_add] using World.block_lt_of_cell? _ _ hx
set_option maxRecDepth 100000 in
theorem open_rows {W : World} {r : Reach} {b0 : Nat} {v : Value} {d : DataW H} {p : List MemPlace} {t e : TypeId} (C B : Nat) (ht : Try.prog.underlying t = some (.slice e)) (hC : Try.prog.cellsOf e = C) (hC0 : 0 < C) (hB : Try.prog.bytesOf e = B)
    (hv : Value.okWide Try.prog W r b0 t v) (h : DataW.Trod enc Try.prog W 0 (fun _ => true) true t v d p) (hw : wt t d) :
    ∃ (A : Option Addr) (n cap : Nat) (V : Nat → List Value), v = .slice A n cap ∧ n ≤ cap ∧ cap ≤ maxLen ∧ cap * B ≤ 140737488351232 ∧ Rd W W.heap.size A ((List.range n).flatMap V) ∧
      ∀ i, i < n → (V i).length = C ∧ ∃ fuel x, DataW.trod enc Try.prog W 0 (fun _ => true) true fuel e (V i) = some x := by
  obtain ⟨A, n, cap, rfl⟩ := okWide_slice ht hv
  obtain ⟨fuel, hf⟩ := h
  rcases open_slice ht hf with ⟨hcs, hx⟩ | ⟨a, len, cap', m, n', D, Pl, hcs, _, hl, hm, hmm, hx, hi⟩
  · simp [Value.cells] at hcs
    obtain ⟨rfl, rfl, rfl⟩ := hcs
    exact ⟨none, 0, 0, fun _ => [], rfl, Nat.le_refl _, by unfold maxLen; omega, by omega, Rd.nil, fun i hi => by omega⟩
  · simp [Value.cells] at hcs
    obtain ⟨rfl, rfl, rfl⟩ := hcs
    simp only [Prod.mk.injEq] at hx
    obtain ⟨rfl, rfl⟩ := hx
    simp only [if_true] at hmm
    obtain rfl : cap = m := hmm.symm
    have hcap : cap * B ≤ 140737488351232 := by
      simp only [wt, DataW.weights, ht, List.length_map, List.length_range, hB, List.all_cons, Bool.and_eq_true] at hw
      have := of_decide_eq_true hw.1
      simp only [reachBytes] at this
      rw [show n + (cap - n) = cap by omega] at this
      omega
    rw [hC] at hi
    obtain ⟨V, hV⟩ := choose_lt (α := List Value) (n := cap) (p := fun i cs' => W.cells? 0 (a.add (i * C)) C = some cs' ∧ DataW.trod enc Try.prog W 0 (fun _ => true) true n' e cs' = some (D i, Pl i)) hi
    have hlen : ∀ i, i < cap → (V i).length = C := fun i h => (World.cells?_some (hV i h).1).2.1
    refine ⟨some a, n, cap, V, rfl, hl, hm, hcap, ?_, fun i h => ⟨hlen i (by omega), n', _, (hV i (by omega)).2⟩⟩
    by_cases h0 : n = 0
    · subst h0; exact .inl rfl
    · have hc0 := (World.cells?_some (hV 0 (by omega)).1).2.2 0 hC0
      have hs0 : (W.cell? (a.add 0)).isSome = true := by
        rw [Nat.zero_mul] at hc0
        have e0 : (a.add 0).add 0 = a.add 0 := by rw [Go.Deep.add_add]
        rw [e0] at hc0
        rw [hc0, List.getElem?_eq_getElem (by rw [hlen 0 (by omega)]; exact hC0)]
        rfl
      obtain ⟨hsp, hadd, hblk⟩ := add_plain hs0
      refine .inr ⟨a.block, a.off, by cases a; simp_all, hblk, fun j u hu => ?_⟩
      have hjl := (List.getElem?_eq_some_iff.1 hu).1
      have hln : ((List.range n).flatMap V).length = n * C := by
        rw [List.length_flatMap]
        have : (List.range n).map (fun k => (V k).length) = List.replicate n C := by
          apply List.ext_getElem
          · simp
          · intro k h1 h2
            simp only [List.getElem_map, List.getElem_range, List.getElem_replicate]
            exact hlen k (by simp at h2; omega)
        rw [this, List.sum_replicate_nat]
      rw [hln] at hjl
      have hjd : j / C < n := (Nat.div_lt_iff_lt_mul hC0).2 hjl
      have hjm : j % C < C := Nat.mod_lt _ hC0
      have hj : j / C * C + j % C = j := by rw [Nat.mul_comm]; exact Nat.div_add_mod j C
      rw [← hj, flatMap_at C V n (j / C) (j % C) (fun k hk => hlen k (by omega)) hjd hjm] at hu
      have hc := (World.cells?_some (hV (j / C) (by omega)).1).2.2 (j % C) hjm
      rw [Go.Deep.add_add, hj, hadd j] at hc
      rw [hc]; exact hu
def rcC (r : Rc) : List Value := [.int .u32 r.f, .int .i64 r.k, .string r.key, .string r.v]
def rcsC (l : List Rc) : List Value := l.flatMap rcC
theorem rcsC_len (l : List Rc) : (rcsC l).length = l.length * 4 := by
  unfold rcsC
  induction l with
  | nil => rfl
  | cons e l ih => rw [List.flatMap_cons, List.length_append, ih, List.length_cons]; show 4 + _ = _; omega
theorem rcsC_at (l : List Rc) : ∀ (k j : Nat) (hk : k < l.length), j < 4 → (rcsC l)[k * 4 + j]? = (rcC (l[k]'hk))[j]? := by
  induction l with
  | nil => intro k j hk; simp at hk
  | cons e l ih =>
    intro k j hk hj
    unfold rcsC
    rw [List.flatMap_cons]
    rcases k with _ | k
    · rw [List.getElem?_append_left (by show 0 * 4 + j < 4; omega)]
      simp
    · rw [List.getElem?_append_right (by show 4 ≤ (k + 1) * 4 + j; omega)]
      have h4 : (rcC e).length = 4 := rfl
      rw [h4, show (k + 1) * 4 + j - 4 = k * 4 + j by omega]
      have := ih k j (by simpa using hk) hj
      unfold rcsC at this
      rw [this]
      simp
/-- record k of a list that reads as l: its four cells -/
theorem rc_at {w : World} {B : Nat} {A : Option Addr} {l : List Rc} (h : Rd w B A (rcsC l)) {k : Nat} (hk : k < l.length) :
    ∃ b off, A = some ⟨b, off, none⟩ ∧ b < B ∧ w.cell? ⟨b, off + k * 4, none⟩ = some (.int .u32 (l[k]'hk).f) ∧ w.cell? ⟨b, off + k * 4 + 1, none⟩ = some (.int .i64 (l[k]'hk).k) ∧
      w.cell? ⟨b, off + k * 4 + 2, none⟩ = some (.string (l[k]'hk).key) ∧ w.cell? ⟨b, off + k * 4 + 3, none⟩ = some (.string (l[k]'hk).v) := by
  rcases h with h | ⟨b, off, rfl, hb, hc⟩
  · have := rcsC_len l
    rw [h] at this; simp at this; omega
  · refine ⟨b, off, rfl, hb, ?_, ?_, ?_, ?_⟩
    · exact hc (k * 4 + 0) _ (rcsC_at l k 0 hk (by omega))
    · exact hc (k * 4 + 1) _ (rcsC_at l k 1 hk (by omega))
    · exact hc (k * 4 + 2) _ (rcsC_at l k 2 hk (by omega))
    · exact hc (k * 4 + 3) _ (rcsC_at l k 3 hk (by omega))
set_option maxRecDepth 100000 in
theorem rc_form {W : World} {n : Nat} {cs : List Value} {y : DataW H × List MemPlace} (hl : cs.length = 4)
    (h : DataW.trod enc Try.prog W 0 (fun _ => true) true n 33 cs = some y) : ∃ r : Rc, cs = rcC r := by
  match cs, hl with
  | [c0, c1, c2, c3], _ =>
    obtain ⟨y0, y1, y2, y3, m, _, _, e0, e1, e2, e3⟩ := Go.Joins.trod_struct4 Try.underlying33 h
    have k0 : Try.prog.cellsOf 31 = 1 := by kernel_rfl
    have k1 : Try.prog.cellsOf 3 = 1 := by kernel_rfl
    have k2 : Try.prog.cellsOf 9 = 1 := by kernel_rfl
    simp [k0] at e0
    simp [k1] at e1
    simp [k2] at e2
    simp [k2] at e3
    obtain ⟨s0, h0, _, w0⟩ := DataW.trod_int Try.underlying31 e0
    obtain ⟨s1, h1, _, w1⟩ := DataW.trod_int Try.underlying3 e1
    obtain ⟨s2, h2, _⟩ := DataW.trod_string Try.underlying9 e2
    obtain ⟨s3, h3, _⟩ := DataW.trod_string Try.underlying9 e3
    simp only [List.cons.injEq, and_true] at h0 h1 h2 h3
    subst h0 h1 h2 h3
    exact ⟨⟨s0, s1, s2, s3⟩, rfl⟩
theorem rcsC_map (f : Nat → Rc) (V : Nat → List Value) (n : Nat) (h : ∀ i, i < n → V i = rcC (f i)) : (List.range n).flatMap V = rcsC ((List.range n).map f) := by
  unfold rcsC
  rw [List.flatMap_map, List.flatMap_def, List.flatMap_def]
  congr 1
  exact List.map_congr_left fun i hi => h i (by simpa using hi)
set_option maxRecDepth 100000 in
theorem open_recs {W : World} {r : Reach} {b0 : Nat} {v : Value} {d : DataW H} {p : List MemPlace} (hv : Value.okWide Try.prog W r b0 22 v)
    (h : DataW.Trod enc Try.prog W 0 (fun _ => true) true 22 v d p) (hw : wt 22 d) :
    ∃ (A : Option Addr) (cap : Nat) (l : List Rc), v = .slice A l.length cap ∧ l.length ≤ cap ∧ cap * 48 ≤ 140737488351232 ∧ Rd W W.heap.size A (rcsC l) := by
  obtain ⟨A, n, cap, V, rfl, hn, _, hcap, hr, hV⟩ := open_rows (t := 22) 4 48 Try.underlying22 (by kernel_rfl) (by omega) (by kernel_rfl) hv h hw
  have : Inhabited Rc := ⟨⟨0, 0, ⟨#[]⟩, ⟨#[]⟩⟩⟩
  obtain ⟨f, hf⟩ := choose_lt (α := Rc) (n := n) (p := fun i e => V i = rcC e) (fun i hi => by
    obtain ⟨h1, fuel, x, h2⟩ := hV i hi
    exact rc_form h1 h2)
  refine ⟨A, cap, (List.range n).map f, by simp, by simpa using hn, hcap, ?_⟩
  rw [← rcsC_map f V n hf]; exact hr
end
end Go.Proofs.Ytodnojpolkdlmaa
