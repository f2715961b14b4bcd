/-
  Words for memory: a slice that reads as a list of cells; a slice that the call owns; append onto it.
-/
import Derived.Below
import Derived.WalkKit
import Derived.Maps.AppendAt
import Derived.Deep.AppendLies
import Derived.Lib.Hide
namespace Go.Proofs.Ytodnojpolkdlmaa
open Go.RowKit

/-- The slice at A reads as the cells cs; it lies below block B. -/
def Rd (w : World) (B : Nat) (A : Option Addr) (cs : List Value) : Prop :=
  cs = [] ∨ ∃ b off, A = some ⟨b, off, none⟩ ∧ b < B ∧ ∀ (j : Nat) (u : Value), cs[j]? = some u → w.cell? ⟨b, off + j, none⟩ = some u

theorem Rd.nil {w : World} {B : Nat} {A : Option Addr} : Rd w B A [] := .inl rfl
theorem Rd.of_blocks {w w' : World} {B : Nat} {A : Option Addr} {cs : List Value} (h : Rd w B A cs) (hb : ∀ k, k < B → w'.heap[k]? = w.heap[k]?) : Rd w' B A cs := by
  rcases h with h | ⟨b, off, hA, hlt, hc⟩
  · exact .inl h
  · exact .inr ⟨b, off, hA, hlt, fun i x hx => (World.cell?_of_block (w := w) (hb b hlt)).trans (hc i x hx)⟩
theorem Rd.keep {w w' : World} {B : Nat} {A : Option Addr} {cs : List Value} (h : Rd w B A cs) (hb : Below B w w') : Rd w' B A cs := h.of_blocks hb.block
theorem Rd.more {w : World} {B B' : Nat} {A : Option Addr} {cs : List Value} (h : Rd w B A cs) (hB : B ≤ B') : Rd w B' A cs := by
  rcases h with h | ⟨b, off, hA, hlt, hc⟩
  · exact .inl h
  · exact .inr ⟨b, off, hA, by omega, hc⟩
theorem Rd.next {w w' : World} {A : Option Addr} {cs : List Value} (h : Rd w w.heap.size A cs) (hb : Below w.heap.size w w') : Rd w' w'.heap.size A cs := (h.keep hb).more hb.size
theorem Rd.add {w : World} {B : Nat} {A : Option Addr} {cs : List Value} (h : Rd w B A cs) (hn : cs ≠ []) :
    ∃ a : Addr, A = some a ∧ ∀ (j : Nat) (u : Value), cs[j]? = some u → w.cell? (a.add j) = some u := by
  rcases h with h | ⟨b, off, hA, hlt, hc⟩
  · exact absurd h hn
  · refine ⟨_, hA, fun j u hu => ?_⟩
    have e : (⟨b, off, none⟩ : Addr).add j = ⟨b, off + j, none⟩ := by unfold Addr.add; split <;> simp_all
    rw [e]; exact hc j u hu
/-- cells of a part: s[k:] -/
theorem Rd.cut {w : World} {B : Nat} {b off : Nat} {cs : List Value} (h : Rd w B (some ⟨b, off, none⟩) cs) (k : Nat) : Rd w B (some ⟨b, off + k, none⟩) (cs.drop k) := by
  rcases h with h | ⟨b', off', hA, hlt, hc⟩
  · exact .inl (by rw [h]; simp)
  · injection hA with hA
    injection hA with h1 h2
    subst h1; subst h2
    exact .inr ⟨b, off + k, rfl, hlt, fun j u hu => by rw [Nat.add_assoc]; exact hc _ _ (by rw [← hu, List.getElem?_drop])⟩
theorem Rd.take {w : World} {B : Nat} {A : Option Addr} {cs : List Value} (h : Rd w B A cs) (k : Nat) : Rd w B A (cs.take k) := by
  rcases h with h | ⟨b', off', hA, hlt, hc⟩
  · exact .inl (by rw [h]; simp)
  · exact .inr ⟨b', off', hA, hlt, fun j u hu => hc _ _ (by rw [List.getElem?_take] at hu; split at hu <;> simp_all)⟩
theorem Rd.pre {w : World} {B : Nat} {A : Option Addr} {cs ds : List Value} (h : Rd w B A (cs ++ ds)) : Rd w B A cs := by
  have := h.take cs.length
  simpa using this

theorem Rd.new (w : World) (cs : Array Value) (t : TypeId) (fr : Nat × Nat := (0, 0)) : Rd (w.alloc (.cells cs t fr)) (w.heap.size + 1) (some ⟨w.heap.size, 0, none⟩) cs.toList :=
  .inr ⟨w.heap.size, 0, rfl, by omega, fun j u hu => by
    have e : (w.alloc (.cells cs t fr)).heap[w.heap.size]? = some (.cells cs t fr) := heap_alloc_new w _
    rw [Nat.zero_add, cell_of_row _ _ j cs t fr e]
    simpa using hu⟩
/-! ### bytes -/
def byteV (x : UInt8) : Value := .int .u8 x.toNat
abbrev Bs (w : World) (B : Nat) (A : Option Addr) (l : List UInt8) : Prop := Rd w B A (l.map byteV)
theorem byte_at {w : World} {B : Nat} {A : Option Addr} {l : List UInt8} (h : Bs w B A l) {k : Nat} (hlt : k < l.length) :
    ∃ (b off x : Nat), A = some ⟨b, off, none⟩ ∧ b < B ∧ x < 256 ∧ w.cell? ⟨b, off + k, none⟩ = some (.int .u8 x) ∧ Hid (x = l[k].toNat) := by
  rcases h with h | ⟨b, off, hA, hb, hc⟩
  · have : l = [] := by simpa using h
    subst this; simp at hlt
  · exact ⟨b, off, l[k].toNat, hA, hb, l[k].toNat_lt, hc k _ (by simp [List.getElem?_eq_getElem hlt, byteV]), rfl⟩

/-! ### a slice that the call owns -/
def okFz (fz : Nat × Nat) (m : Nat) : Prop := fz.2 = 0 ∨ m ≤ fz.1
def Own (w : World) (base : Nat) (e : TypeId) (size : Nat) (v : Value) (n : Nat) (cs : List Value) : Prop :=
  cs.length = n * size ∧
  ((v = .slice none 0 0 ∧ n = 0) ∨
   ∃ g cap cur fz, v = .slice (some ⟨g, 0, none⟩) n cap ∧ base ≤ g ∧ w.heap[g]? = some (.cells cur e fz) ∧ okFz fz cur.size ∧ n ≤ cap ∧ cap ≤ maxLen ∧ cur.size = cap * size ∧ cur.toList.take (n * size) = cs)

section
variable {w w' : World} {base : Nat} {e : TypeId} {size : Nat} {v : Value} {n : Nat} {cs : List Value}
theorem Own.nil (w : World) (base : Nat) (e : TypeId) (size : Nat) : Own w base e size (.slice none 0 0) 0 [] := ⟨by simp, .inl ⟨rfl, rfl⟩⟩
theorem Own.of_owns (h : w.ownsRow base e size v n cs) : Own w base e size v n cs := by
  refine ⟨h.1, ?_⟩
  rcases h.2 with hn | ⟨g, cap, cur, hv, hb, hg, rest⟩
  · exact .inl hn
  · exact .inr ⟨g, cap, cur, (0, 0), hv, hb, hg, .inl rfl, rest⟩
theorem Own.lt (h : Own w base e size v n cs) : ∀ k, v.ownBlock = some k → base ≤ k ∧ k < w.heap.size := by
  intro k hk
  rcases h.2 with ⟨rfl, _⟩ | ⟨g, cap, cur, fz, rfl, hb, hg, _⟩
  · simp [Value.ownBlock] at hk
  · simp [Value.ownBlock] at hk
    subst hk
    exact ⟨hb, (Array.getElem?_eq_some_iff.1 hg).1⟩
theorem Own.of_block (h : Own w base e size v n cs) (hb : ∀ k, v.ownBlock = some k → w'.heap[k]? = w.heap[k]?) : Own w' base e size v n cs := by
  refine ⟨h.1, ?_⟩
  rcases h.2 with hn | ⟨g, cap, cur, fz, rfl, hbg, hgg, rest⟩
  · exact .inl hn
  · exact .inr ⟨g, cap, cur, fz, rfl, hbg, (hb g rfl).trans hgg, rest⟩
theorem Own.keep (h : Own w base e size v n cs) {B : Nat} (hb : Below B w w') (hB : w.heap.size ≤ B) : Own w' base e size v n cs :=
  h.of_block fun k hk => hb.block k (by have := (h.lt k hk).2; omega)
theorem Own.kept {row : Option Nat} (h : Own w base e size v n cs) (hg : w.grownBy w' row) (hne : v.ownBlock = none ∨ v.ownBlock ≠ row) : Own w' base e size v n cs :=
  h.of_block fun k hk => hg.block k (h.lt k hk).2 (by rw [← hk]; rcases hne with h0 | h0; rw [h0] at hk; cases hk; exact h0)
theorem Own.drew (h : Own w base e size v n cs) : Own w.drew base e size v n cs := h
theorem Own.alloc (h : Own w base e size v n cs) (o : Obj) : Own (w.alloc o) base e size v n cs :=
  h.of_block fun k hk => heap_alloc_old w o (h.lt k hk).2
theorem Own.base_le {base' : Nat} (h : Own w base e size v n cs) (hb : base' ≤ base) : Own w base' e size v n cs := by
  refine ⟨h.1, ?_⟩
  rcases h.2 with hn | ⟨g, cap, cur, fz, rfl, hbg, hgg, rest⟩
  · exact .inl hn
  · exact .inr ⟨g, cap, cur, fz, rfl, by omega, hgg, rest⟩
theorem Own.rd (h : Own w base e size v n cs) : ∃ A cap, v = .slice A n cap ∧ n ≤ cap ∧ cap ≤ maxLen ∧ Rd w w.heap.size A cs := by
  have hlen := h.1
  rcases h.2 with ⟨rfl, rfl⟩ | ⟨g, cap, cur, fz, rfl, hb, hg, _, hnc, hcm, hcs, htake⟩
  · refine ⟨none, 0, rfl, Nat.le_refl _, by unfold maxLen; omega, .inl ?_⟩
    exact List.eq_nil_of_length_eq_zero (by simpa using hlen)
  · refine ⟨_, cap, rfl, hnc, hcm, .inr ⟨g, 0, rfl, (Array.getElem?_eq_some_iff.1 hg).1, fun j u hu => ?_⟩⟩
    rw [Nat.zero_add, cell_of_row w g j cur e fz hg]
    rw [← htake, List.getElem?_take] at hu
    split at hu
    · simpa using hu
    · cases hu
theorem Own.rd' {A : Option Addr} {cap : Nat} (h : Own w base e size (.slice A n cap) n cs) : Rd w w.heap.size A cs := by
  obtain ⟨A', cap', hv, _, _, hr⟩ := h.rd
  injection hv with hA _ _
  rw [hA]; exact hr
theorem Own.form (h : Own w base e size v n cs) (hn : 0 < n) : ∃ g cap, v = .slice (some ⟨g, 0, none⟩) n cap ∧ base ≤ g ∧ g < w.heap.size := by
  rcases h.2 with ⟨rfl, rfl⟩ | ⟨g, cap, cur, fz, rfl, hb, hg, _⟩
  · omega
  · exact ⟨g, cap, rfl, hb, (Array.getElem?_eq_some_iff.1 hg).1⟩
end

theorem below_append {w w1 w' : World} {base : Nat} {e : TypeId} {size : Nat} {v : Value} {n : Nat} {cs : List Value} {B : Nat} (hb : Below B w w1) (h : Own w1 base e size v n cs) (hB : B ≤ base) (hBz : B ≤ w1.heap.size) (hg : w1.grownBy w' v.ownBlock) : Below B w w' :=
  hb.grown hg hBz (fun k hk => by have := (h.lt k hk).1; omega)
/-- 'run_storeCells_at', the row's frozen range being none or behind the row. -/
theorem run_storeCells_ok (P : Program) (g o : Nat) (t : TypeId) (fz : Nat × Nat) : ∀ (vs : List Value) (i : Nat) (cur : Array Value) (w : World), w.heap[g]? = some (.cells cur t fz) → okFz fz cur.size → o + i + vs.length ≤ cur.size → (∀ v ∈ vs, v.oneCell' = true) →
    (storeCells ⟨g, o, none⟩ vs i).run P w = .ok () (w.setRow g (cur.toList.take (o + i) ++ vs ++ cur.toList.drop (o + i + vs.length)).toArray)
  | [], i, cur, w, hg, _, _, _ => by
    simp only [storeCells, List.append_nil, List.length_nil, Nat.add_zero, List.take_append_drop, Array.toArray_toList]
    rw [setRow_self w g cur t fz hg]
    rfl
  | v :: rest, i, cur, w, hg, hfz, hl, h1 => by
    have hi : o + i < cur.size := by simp at hl; omega
    have hadd : (⟨g, o, none⟩ : Addr).add i = ⟨g, o + i, none⟩ := by unfold Addr.add; split <;> simp_all
    have hcell : w.cell? ⟨g, o + i, none⟩ = some cur[o + i] := by simp [World.cell?, hg, hi]
    have hfro : w.frozen? ⟨g, o + i, none⟩ = false := by
      obtain ⟨lo, hi'⟩ := fz
      simp only [World.frozen?, hg, Bool.and_eq_false_iff, decide_eq_false_iff_not]
      unfold okFz at hfz
      simp only at hfz
      omega
    have hst : (store ((⟨g, o, none⟩ : Addr).add i) v).run P w = .ok () (w.setRow g (cur.setIfInBounds (o + i) v)) := by
      rw [hadd, run_store P w _ v _ (h1 v (by simp)), hcell]
      simp [hfro, setCell_eq_setRow w g (o + i) cur t fz v hg]
    have ih := run_storeCells_ok P g o t fz rest (i + 1) (cur.setIfInBounds (o + i) v) (w.setRow g (cur.setIfInBounds (o + i) v)) (setRow_heap w g cur _ t _ hg) (by simpa using hfz) (by simp at hl ⊢; omega) (fun x hx => h1 x (by simp [hx]))
    simp only [storeCells, Sem.run_bind, hst, Result.andThen_ok, ih, setRow_setRow]
    congr 3
    have e := list_seg_step cur.toList (o + i) v rest (by simp at hl ⊢; omega)
    simpa [Array.toList_setIfInBounds, Nat.add_assoc] using e

section
variable {P : Program} (w : World)
theorem run_firstCells_rd (size m c B : Nat) (A : Option Addr) (news : List Value) (hl : news.length = m * size) (hr : Rd w B A news) :
    (Builtin.firstCells size m (.slice A m c)).run P w = .ok news.toArray w := by
  rcases A with _ | a
  · have hn : news = [] := by
      rcases hr with h | ⟨b, off, hA, _⟩
      · exact h
      · cases hA
    subst hn
    exact run_firstCells_none w size m m c
  · refine run_firstCells_some (P := P) w size m a m c news hl ?_
    intro j u hu
    by_cases hn : news = []
    · subst hn; simp at hu
    · obtain ⟨a', ha, hc⟩ := hr.add hn
      injection ha with ha
      subst ha
      exact hc j u hu
/-- what is appended: m elements, the cells news, read from x, of type u -/
structure Src (P : Program) (w : World) (size : Nat) (u : TypeId) (x : Value) (m : Nat) (news : List Value) : Prop where
  len : ∀ w', (Builtin.lenOf x).run P w' = .ok m w'
  first : ∀ w', w'.heap = w.heap → (Builtin.firstCells size m x).run P w' = .ok news.toArray w'
  size : news.length = m * size
  ty : (∃ e, P.underlying u = some (.slice e)) ∨ P.underlying u = some .string
theorem Src.slice {size m c B : Nat} {A : Option Addr} {news : List Value} {t e : TypeId} (ht : P.underlying t = some (.slice e)) (hl : news.length = m * size) (hr : Rd w B A news) : Src P w size t (.slice A m c) m news :=
  ⟨fun _ => rfl, fun w' hw => run_firstCells_rd (P := P) w' size m c B A news hl (hr.of_blocks fun k _ => by rw [hw]), hl, .inl ⟨_, ht⟩⟩
theorem Src.str {s : ByteArray} {t : TypeId} (ht : P.underlying t = some .string) : Src P w 1 t (.string s) s.size (s.data.toList.map byteV) := by
  refine ⟨fun _ => rfl, fun w' _ => ?_, by simp, .inr ht⟩
  have he : s.extract 0 s.size = s := by simp
  simp only [Builtin.firstCells, he, Sem.run_pure]
  congr 1
  apply Array.ext'
  simp [byteV]
theorem run_append_grow' (t u ty e : TypeId) (i : TypeInfo) (z : Value) (ht : P.underlying t = some (.slice e)) (hi : P.info? e = some i) (hz : i.zero = some z)
    (base : Option Addr) (sLen sCap : Nat) (olds : List Value) (hol : olds.length = sLen * i.size) (B' : Nat) (holds : Rd w B' base olds)
    (x : Value) (m : Nat) (news : List Value) (hs : Src P w i.size u x m news)
    (hroom : sCap < sLen + m) (hb : Builtin.nextslicecap (sLen + m) sCap * i.bytes ≤ 281474976710656) (hsmall : sLen + m ≤ 9223372036854775807) :
    (Builtin.append_ #[t, u] ty #[.slice base sLen sCap, x]).run P w =
      .ok (.slice (some ⟨w.heap.size, 0, none⟩) (sLen + m) (grownCap w (sLen + m) sCap e)) (w.drew.alloc (.cells (olds.toArray ++ news.toArray ++ Builtin.zeroCells z.cells (grownCap w (sLen + m) sCap e - (sLen + m))) e)) := by
  have h1 := hs.first w.drew rfl
  have h2 : (Builtin.firstCells i.size sLen (.slice base sLen sCap)).run P w.drew = .ok olds.toArray w.drew :=
    run_firstCells_rd (P := P) w.drew i.size sLen sCap B' base olds hol (holds.of_blocks fun k _ => rfl)
  have h3 := hs.len
  have hn : ¬ (sLen + m ≤ sCap) := by omega
  have hnb : ¬ (281474976710656 < Builtin.nextslicecap (sLen + m) sCap * i.bytes) := by omega
  rcases hs.ty with ⟨e', hu⟩ | hu
  all_goals
    simp [Builtin.append_, run_underlying ht, run_underlying hu, sizeOf, typeInfo, zeroValue, hi, hz, h3, hn, hnb, Question.forced, h1, h2, newRow, grownCap]
    rw [if_neg (by omega)]
    congr 3
    apply Array.ext'
    simp [List.append_assoc]
theorem run_append_room' (t u ty e : TypeId) (i : TypeInfo) (ht : P.underlying t = some (.slice e)) (hi : P.info? e = some i)
    (g sLen sCap : Nat) (cur : Array Value) (fz : Nat × Nat) (hg : w.heap[g]? = some (.cells cur e fz)) (hfz : okFz fz cur.size)
    (x : Value) (m : Nat) (news : List Value) (hs : Src P w i.size u x m news) (h1 : ∀ u ∈ news, u.oneCell' = true)
    (hroom : sLen + m ≤ sCap) (hfit : sLen * i.size + news.length ≤ cur.size) :
    (Builtin.append_ #[t, u] ty #[.slice (some ⟨g, 0, none⟩) sLen sCap, x]).run P w =
      .ok (.slice (some ⟨g, 0, none⟩) (sLen + m) sCap) (w.setRow g (cur.toList.take (sLen * i.size) ++ news ++ cur.toList.drop (sLen * i.size + news.length)).toArray) := by
  have hf := hs.first w rfl
  have h3 := hs.len
  have hst := run_storeCells_ok P g (sLen * i.size) e fz news 0 cur w hg hfz (by simpa using hfit) h1
  simp only [Nat.add_zero] at hst
  rcases hs.ty with ⟨e', hu⟩ | hu
  all_goals simp [Builtin.append_, run_underlying ht, run_underlying hu, sizeOf, typeInfo, hi, h3, hroom, hf, Addr.add_lit, hst]
/-- append onto a slice that the call owns -/
theorem run_append (base : Nat) (t u ty e : TypeId) (i : TypeInfo) (z : Value) (size bytes : Nat) (ht : P.underlying t = some (.slice e)) (hi : P.info? e = some i) (hz : i.zero = some z)
    (hsize : i.size = size) (hby : i.bytes = bytes) (hzs : z.cells.size = size) (hsz : 0 < size)
    (v : Value) (n : Nat) (cs : List Value) (hown : Own w base e size v n cs)
    (x : Value) (m : Nat) (news : List Value) (hs : Src P w size u x m news) (h1 : ∀ u ∈ news, u.oneCell' = true)
    (h63 : n + m ≤ maxLen) (hbytes : (n + m) * bytes ≤ 140737488355328) (hbase : base ≤ w.heap.size) :
    ∃ v' w', (Builtin.append_ #[t, u] ty #[v, x]).run P w = .ok v' w' ∧ Own w' base e size v' (n + m) (cs ++ news) ∧ w.grownBy w' v.ownBlock ∧
      (v'.ownBlock = v.ownBlock ∨ v'.ownBlock = some w.heap.size) := by
  subst hsize
  subst hby
  have hsmall : n + m ≤ 9223372036854775807 := by simp only [maxLen] at h63; omega
  have hl := hs.size
  have hlen : (cs ++ news).length = (n + m) * i.size := by rw [List.length_append, hown.1, hl, Nat.add_mul]
  have grown : ∀ (old : Nat), old < n + m →
      Own (w.drew.alloc (.cells (cs.toArray ++ news.toArray ++ Builtin.zeroCells z.cells (grownCap w (n + m) old e - (n + m))) e)) base e i.size
        (.slice (some ⟨w.heap.size, 0, none⟩) (n + m) (grownCap w (n + m) old e)) (n + m) (cs ++ news) ∧
      ∀ row, w.grownBy (w.drew.alloc (.cells (cs.toArray ++ news.toArray ++ Builtin.zeroCells z.cells (grownCap w (n + m) old e - (n + m))) e)) row := by
    intro old ho
    have hge := grownCap_ge w (n + m) old e
    have hcm : grownCap w (n + m) old e ≤ maxLen := grownCap_le_maxLen w (n + m) old e h63
    refine ⟨⟨hlen, .inr ⟨w.heap.size, _, _, (0, 0), rfl, hbase, heap_alloc_new w.drew _, .inl rfl, hge, hcm, ?_, ?_⟩⟩, fun row => ⟨rfl, rfl, rfl, by simp, fun k hk _ => heap_alloc_old w.drew _ hk⟩⟩
    · simp only [Array.size_append, List.size_toArray, size_zeroCells, hzs, hown.1, hl, ← Nat.add_mul]
      congr 1
      omega
    · simp only [Array.toList_append, List.append_assoc]
      rw [← List.append_assoc, ← hlen]
      exact List.take_left
  have hrd := hown.rd
  obtain ⟨A, cap, rfl, hnc, hcm, hrd⟩ := hrd
  by_cases hroom : n + m ≤ cap
  · rcases hown.2 with ⟨hv, hn⟩ | ⟨g, cap', cur, fz, hv, hbg, hg, hfz, hnc', hcm', hcs, htake⟩
    · injection hv with hA _ hc
      subst hA; subst hc; subst hn
      have hm : m = 0 := by omega
      subst hm
      have hnn : news = [] := List.eq_nil_of_length_eq_zero (by simpa using hl)
      subst hnn
      have hcc : cs = [] := List.eq_nil_of_length_eq_zero (by simpa using hown.1)
      subst hcc
      refine ⟨.slice none 0 0, w, ?_, Own.nil w base e i.size, ⟨rfl, rfl, rfl, Nat.le_refl _, fun _ _ _ => rfl⟩, .inl rfl⟩
      have h3 := hs.len
      have hf := hs.first w rfl
      rcases hs.ty with ⟨e', hu⟩ | hu
      all_goals simp [Builtin.append_, run_underlying ht, run_underlying hu, sizeOf, typeInfo, hi, h3, hf]
    · injection hv with hA _ hc
      subst hA; subst hc
      have hfit : n * i.size + news.length ≤ cur.size := by rw [hl, hcs, ← Nat.add_mul]; exact Nat.mul_le_mul_right _ hroom
      have hr := run_append_room' (P := P) w t u ty e i ht hi g n cap cur fz hg hfz x m news hs h1 hroom hfit
      refine ⟨_, _, hr, ⟨hlen, .inr ⟨g, cap, _, fz, rfl, hbg, setRow_heap w g cur _ e _ hg, ?_, hroom, hcm, ?_, ?_⟩⟩, ⟨rfl, rfl, rfl, by simp, fun k _ hk => setRow_other w g k _ (fun e => hk (by simp [Value.ownBlock, e]))⟩, .inl rfl⟩
      · have hsz2 : (cur.toList.take (n * i.size) ++ news ++ cur.toList.drop (n * i.size + news.length)).toArray.size = cur.size := by
          simp only [List.size_toArray, List.length_append, List.length_take, List.length_drop, Array.length_toList]
          omega
        rw [hsz2]; exact hfz
      · simp only [List.size_toArray, List.length_append, List.length_take, List.length_drop, Array.length_toList]
        omega
      · rw [htake, ← hlen]
        exact List.take_left
  · have hr := run_append_grow' (P := P) w t u ty e i z ht hi hz A n cap cs hown.1 _ hrd x m news hs (by omega) (growslice_fits (by omega) hbytes) hsmall
    have hgr := grown cap (by omega)
    exact ⟨_, _, hr, hgr.1, hgr.2 _, .inr rfl⟩
theorem wp_append {o : Oper} {a : Act} {K : Act → World → Prop} {Q : Exit → Act → World → Prop} (s y : Operand) (t u : TypeId)
    (ho : o.op = .call { callee := .builtin .append, args := #[s, y], argTypes := #[t, u] })
    (base : Nat) (e : TypeId) (i : TypeInfo) (z : Value) (size bytes : Nat) (ht : P.underlying t = some (.slice e)) (hi : P.info? e = some i) (hz : i.zero = some z)
    (hsize : i.size = size) (hby : i.bytes = bytes) (hzs : z.cells.size = size) (hsz : 0 < size)
    (v : Value) (n : Nat) (cs : List Value) (hsv : a.eval s = v) (hown : Own w base e size v n cs)
    (x : Value) (m : Nat) (news : List Value) (hx : a.eval y = x) (hs : Src P w size u x m news) (h1 : ∀ u ∈ news, u.oneCell' = true)
    (h63 : n + m ≤ maxLen) (hbytes : (n + m) * bytes ≤ 140737488355328) (hbase : base ≤ w.heap.size)
    (h : ∀ v' w', Own w' base e size v' (n + m) (cs ++ news) → w.grownBy w' v.ownBlock → (v'.ownBlock = v.ownBlock ∨ v'.ownBlock = some w.heap.size) → K (a.put o.dst v') w') : o.wp P a w K Q := by
  obtain ⟨v', w', hrun, h2, h3, h4⟩ := run_append (P := P) w base t u o.type e i z size bytes ht hi hz hsize hby hzs hsz v n cs hown x m news hs h1 h63 hbytes hbase
  unfold Oper.wp execOp
  simp only [ho, resolve, invoke, builtin, Sem.run_bind, Sem.run_pure, Result.andThen_ok, List.map_toArray, List.map_cons, List.map_nil, hsv, hx, hrun]
  exact h v' w' h2 h3 h4
theorem wpList_append {ops : Array Oper} {rest : List Oper} {o : Oper} {a : Act} {Q : Exit → Act → World → Prop} (hgd : o.guard = none) (s y : Operand) (t u : TypeId)
    (ho : o.op = .call { callee := .builtin .append, args := #[s, y], argTypes := #[t, u] })
    (base : Nat) (e : TypeId) (i : TypeInfo) (z : Value) (size bytes : Nat) (ht : P.underlying t = some (.slice e)) (hi : P.info? e = some i) (hz : i.zero = some z)
    (hsize : i.size = size) (hby : i.bytes = bytes) (hzs : z.cells.size = size) (hsz : 0 < size)
    (v : Value) (n : Nat) (cs : List Value) (hsv : a.eval s = v) (hown : Own w base e size v n cs)
    (x : Value) (m : Nat) (news : List Value) (hx : a.eval y = x) (hs : Src P w size u x m news) (h1 : ∀ u ∈ news, u.oneCell' = true)
    (h63 : n + m ≤ maxLen) (hbytes : (n + m) * bytes ≤ 140737488355328) (hbase : base ≤ w.heap.size)
    (h : ∀ v' w', Own w' base e size v' (n + m) (cs ++ news) → w.grownBy w' v.ownBlock → (v'.ownBlock = v.ownBlock ∨ v'.ownBlock = some w.heap.size) → wpList P ops Q rest (a.put o.dst v') w') : wpList P ops Q (o :: rest) a w :=
  wpList_plain hgd fun _ hK => wp_append w s y t u ho base e i z size bytes ht hi hz hsize hby hzs hsz v n cs hsv hown x m news hx hs h1 h63 hbytes hbase fun v' w' h2 h3 h4 => hK _ _ (h v' w' h2 h3 h4)
theorem step_append {ops : Array Oper} {o : Oper} {a : Act} {K : Act → World → Prop} {Q : Exit → Act → World → Prop} {E : Prop} (hgd : o.guard = none) (s y : Operand) (t u : TypeId)
    (ho : o.op = .call { callee := .builtin .append, args := #[s, y], argTypes := #[t, u] })
    (base : Nat) (e : TypeId) (i : TypeInfo) (z : Value) (size bytes : Nat) (ht : P.underlying t = some (.slice e)) (hi : P.info? e = some i) (hz : i.zero = some z)
    (hsize : i.size = size) (hby : i.bytes = bytes) (hzs : z.cells.size = size) (hsz : 0 < size)
    (v : Value) (n : Nat) (cs : List Value) (hsv : a.eval s = v) (hown : Own w base e size v n cs)
    (x : Value) (m : Nat) (news : List Value) (hx : a.eval y = x) (hs : Src P w size u x m news) (h1 : ∀ u ∈ news, u.oneCell' = true)
    (h63 : n + m ≤ maxLen) (hbytes : (n + m) * bytes ≤ 140737488355328) (hbase : base ≤ w.heap.size)
    (h : ∀ v' w', Own w' base e size v' (n + m) (cs ++ news) → w.grownBy w' v.ownBlock → (v'.ownBlock = v.ownBlock ∨ v'.ownBlock = some w.heap.size) → K (a.put o.dst v') w') :
    if Region.wanted o (yielded ops a.tmps) = true then Oper.wp P o a w K Q else E := by
  have hw : Region.wanted o (yielded ops a.tmps) = true := by simp [Region.wanted, hgd]
  rw [if_pos hw]
  exact wp_append w s y t u ho base e i z size bytes ht hi hz hsize hby hzs hsz v n cs hsv hown x m news hx hs h1 h63 hbytes hbase h
end

/-! ### a block that is known whole -/
def Blk (w : World) (g : Nat) (t : TypeId) (cs : Array Value) : Prop := w.heap[g]? = some (.cells cs t (0, 0))
section
variable {w w' : World} {g : Nat} {t : TypeId} {cs : Array Value}
theorem Blk.lt (h : Blk w g t cs) : g < w.heap.size := by
  rcases Nat.lt_or_ge g w.heap.size with hlt | hge
  · exact hlt
  · unfold Blk at h; rw [Array.getElem?_eq_none hge] at h; cases h
theorem Blk.cell (h : Blk w g t cs) (i : Nat) : w.cell? ⟨g, i, none⟩ = cs[i]? := cell_of_row w g i cs t (0, 0) h
theorem Blk.frozen (h : Blk w g t cs) (i : Nat) : w.frozen? ⟨g, i, none⟩ = false := by
  unfold Blk at h
  simp [World.frozen?, h]
theorem Blk.new (w : World) (t : TypeId) (cs : Array Value) : Blk (w.alloc (.cells cs t)) w.heap.size t cs := heap_alloc_new w _
theorem Blk.drew (h : Blk w g t cs) : Blk w.drew g t cs := h
theorem Blk.alloc (h : Blk w g t cs) (o : Obj) : Blk (w.alloc o) g t cs := (Below.heap_alloc w o g h.lt).trans h
theorem Blk.set_ (h : Blk w g t cs) (i : Nat) (u : Value) : Blk (w.setCell ⟨g, i, none⟩ u) g t (cs.setIfInBounds i u) := by
  unfold Blk at h ⊢
  simp [World.setCell, Array.getElem?_modify, h]
theorem Blk.far (h : Blk w g t cs) {p : Addr} (hp : g ≠ p.block) (u : Value) : Blk (w.setCell p u) g t cs := (Below.heap_setCell w p u g hp).trans h
theorem Blk.below {B : Nat} (h : Blk w g t cs) (hb : Below B w w') (hg : g < B) : Blk w' g t cs := (hb.block g hg).trans h
theorem Blk.grown {row : Option Nat} (h : Blk w g t cs) (hb : w.grownBy w' row) (hg : some g ≠ row) : Blk w' g t cs := (hb.block g h.lt hg).trans h
theorem Blk.own (h : Blk w g t cs) {base n cap size : Nat} {xs : List Value} (hb : base ≤ g) (hn : n ≤ cap) (hc : cap ≤ maxLen) (hs : cs.size = cap * size) (hx : cs.toList.take (n * size) = xs) :
    Own w base t size (.slice (some ⟨g, 0, none⟩) n cap) n xs := by
  refine ⟨?_, .inr ⟨g, cap, cs, (0, 0), rfl, hb, h, .inl rfl, hn, hc, hs, hx⟩⟩
  rw [← hx, List.length_take, Array.length_toList, hs]
  exact Nat.min_eq_left (Nat.mul_le_mul_right _ hn)
end

/-! ### strings and bytes -/
section
variable {P : Program} (w : World)
theorem bytesRow_take (s : ByteArray) (c : Nat) : (bytesRow s c).toList.take s.size = s.data.toList.map byteV := by
  unfold bytesRow
  rw [Array.toList_append, List.take_append_of_le_length (by simp), List.take_of_length_le (by simp)]
  simp [byteV]
theorem Own.ofString {base : Nat} {e : TypeId} (s : ByteArray) (hb : base ≤ w.heap.size) (hs : s.size ≤ maxLen) :
    Own (w.drew.alloc (.cells (bytesRow s (grownCap w s.size 0 e)) e ((bytesRow s (grownCap w s.size 0 e)).size, (bytesRow s (grownCap w s.size 0 e)).size + 1))) base e 1
      (.slice (some ⟨w.heap.size, 0, none⟩) s.size (grownCap w s.size 0 e)) s.size (s.data.toList.map byteV) := by
  refine ⟨by simp, .inr ⟨w.heap.size, _, _, _, rfl, hb, heap_alloc_new w.drew _, .inr (Nat.le_refl _), grownCap_ge w _ _ _, grownCap_le_maxLen w _ _ _ hs, ?_, ?_⟩⟩
  · have := grownCap_ge w s.size 0 e
    simp [bytesRow]; omega
  · rw [Nat.mul_one]; exact bytesRow_take s _
/-- '[]byte(s)' -/
theorem run_toBytes (src dst e base : Nat) (s : ByteArray) (hs : P.underlying src = some .string) (hd : P.underlying dst = some (.slice e)) (he : P.underlying e = some (.int .u8)) (hb : base ≤ w.heap.size) (hl : s.size ≤ maxLen) :
    ∃ c w', (convert src dst (.string s)).run P w = .ok (.slice (some ⟨w.heap.size, 0, none⟩) s.size c) w' ∧ Own w' base e 1 (.slice (some ⟨w.heap.size, 0, none⟩) s.size c) s.size (s.data.toList.map byteV) ∧
      w.grownBy w' none ∧ w'.heap.size = w.heap.size + 1 :=
  ⟨_, _, run_bytes_of_string w src dst e s hs hd he, Own.ofString w s hb hl, ⟨rfl, rfl, rfl, by simp, fun k hk _ => heap_alloc_old w.drew _ hk⟩, by simp⟩
/-- the world behind '[]byte(s)', and the slice's capacity: two names -/
def cvtW (w : World) (s : ByteArray) (e : TypeId) : World :=
  w.drew.alloc (.cells (bytesRow s (grownCap w s.size 0 e)) e ((bytesRow s (grownCap w s.size 0 e)).size, (bytesRow s (grownCap w s.size 0 e)).size + 1))
def cvtC (w : World) (s : ByteArray) (e : TypeId) : Nat := grownCap w s.size 0 e
theorem run_cvt (src dst e : TypeId) (s : ByteArray) (hs : P.underlying src = some .string) (hd : P.underlying dst = some (.slice e)) (he : P.underlying e = some (.int .u8)) :
    (convert src dst (.string s)).run P w = .ok (.slice (some ⟨w.heap.size, 0, none⟩) s.size (cvtC w s e)) (cvtW w s e) := run_bytes_of_string w src dst e s hs hd he
theorem cvtW_own {base : Nat} {e : TypeId} (s : ByteArray) (hb : base ≤ w.heap.size) (hs : s.size ≤ maxLen) :
    Own (cvtW w s e) base e 1 (.slice (some ⟨w.heap.size, 0, none⟩) s.size (cvtC w s e)) s.size (s.data.toList.map byteV) := Own.ofString w s hb hs
theorem cvtW_size (s : ByteArray) (e : TypeId) : (cvtW w s e).heap.size = w.heap.size + 1 := by unfold cvtW; simp
theorem cvtW_below (s : ByteArray) (e : TypeId) : Below w.heap.size w (cvtW w s e) := ((Below.refl _ w).drew).alloc (Nat.le_refl _) _
theorem cvtW_cell (s : ByteArray) (e : TypeId) {p : Addr} (hp : p.block < w.heap.size) : (cvtW w s e).cell? p = w.cell? p := (cvtW_below w s e).cell hp
/-- 'string(b)' -/
theorem run_toString (src dst e : TypeId) (A : Option Addr) (cap B : Nat) (l : List UInt8) (hs : P.underlying src = some (.slice e)) (he : P.underlying e = some (.int .u8)) (hd : P.underlying dst = some .string) (hr : Bs w B A l) :
    (convert src dst (.slice A l.length cap)).run P w = .ok (.string ⟨l.toArray⟩) w := by
  rcases A with _ | a
  · have hl : l = [] := by
      rcases hr with h | ⟨_, _, hA, _⟩
      · simpa using h
      · cases hA
    subst hl
    simp [convert, run_underlying hs, run_underlying hd, run_underlying he, Conv.bytesToString]
    rfl
  · refine run_convert_bytes_back w src dst e a cap l hs he hd fun j hj => ?_
    obtain ⟨a', ha, hc⟩ := hr.add (by intro h; have : l = [] := by simpa using h
                                      subst this; simp at hj)
    injection ha with ha
    subst ha
    exact hc j _ (by simp [List.getElem?_eq_getElem hj, byteV])
theorem wp_run {o : Oper} {a : Act} {K : Act → World → Prop} {Q : Exit → Act → World → Prop} (src dst : TypeId) (y : Operand) (ho : o.op = .convert src dst y) (x val : Value) (w' : World) (hx : a.eval y = x)
    (hrun : (convert src dst x).run P w = .ok val w') (h : K (a.put o.dst val) w') : o.wp P a w K Q := by
  unfold Oper.wp execOp
  simp only [ho, hx, Sem.run_bind, hrun, Result.andThen_ok, Sem.run_pure]
  exact h
theorem step_toBytes {ops : Array Oper} {o : Oper} {a : Act} {K : Act → World → Prop} {Q : Exit → Act → World → Prop} {E : Prop} (hgd : o.guard = none) (src dst e base : Nat) (y : Operand) (ho : o.op = .convert src dst y)
    (s : ByteArray) (hx : a.eval y = .string s) (hs : P.underlying src = some .string) (hd : P.underlying dst = some (.slice e)) (he : P.underlying e = some (.int .u8)) (hb : base ≤ w.heap.size) (hl : s.size ≤ maxLen)
    (h : ∀ c w', Own w' base e 1 (.slice (some ⟨w.heap.size, 0, none⟩) s.size c) s.size (s.data.toList.map byteV) → w.grownBy w' none → w'.heap.size = w.heap.size + 1 → K (a.put o.dst (.slice (some ⟨w.heap.size, 0, none⟩) s.size c)) w') :
    if Region.wanted o (yielded ops a.tmps) = true then Oper.wp P o a w K Q else E := by
  have hw : Region.wanted o (yielded ops a.tmps) = true := by simp [Region.wanted, hgd]
  rw [if_pos hw]
  obtain ⟨c, w', h1, h2, h3, h4⟩ := run_toBytes w src dst e base s hs hd he hb hl
  exact wp_run w src dst y ho _ _ w' hx h1 (h c w' h2 h3 h4)
end
end Go.Proofs.Ytodnojpolkdlmaa
