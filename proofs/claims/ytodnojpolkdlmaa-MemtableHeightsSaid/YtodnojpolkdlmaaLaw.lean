/-
  The end of every law's proof (the result is true, each argument reads as before), and the opening of []byte, api.Key.
-/
import Derived.Test.YtodnojpolkdlmaaMem
import Derived.Test.YtodnojpolkdlmaaRows
import Derived.ProofKit
import Derived.Carry
import Derived.OpenShut
import Derived.Lib.SmallJoins
import Derived.Lib.SlBytesRowKit
import Derived.SizedLaws
namespace Go.Proofs.Ytodnojpolkdlmaa
open Go.ChangeShapes Go.WideShapes Go.ChangeAt Go.RowKit

theorem Try.own : ownKnob Try.prog.godebug = none := by kernel_rfl
theorem Try.laidOut : laidOutB Try.prog = true := by kernel_rfl

section
variable {H : Type} {enc : TypeId × Value → H}
noncomputable def rowB (t : TypeId) : Bool := Try.prog.readableRec t && decide (t < Try.prog.types.size)
theorem rowB_out {t : TypeId} (h : rowB t = true) : Try.prog.readableRec t = true ∧ t < Try.prog.types.size := by
  unfold rowB at h
  rw [Bool.and_eq_true] at h
  exact ⟨h.1, of_decide_eq_true h.2⟩
noncomputable def readB (ts : List TypeId) : Bool := ts.all rowB
theorem trodAll_keep {W W' : World} (hb : Below W.heap.size W W') (ts : List TypeId) : ∀ (vs : List Value) (ds : List (DataW H)) (p : List MemPlace), readB ts = true →
    DataW.TrodAll enc Try.prog W 0 (fun _ => true) true ts vs ds p → (∀ x ∈ p, x.block < W.heap.size) →
    DataW.TrodAll enc Try.prog W' 0 (fun b => decide (b < W.heap.size)) true ts vs ds p := by
  induction ts with
  | nil =>
    intro vs ds p _ h _
    obtain ⟨rfl, rfl, rfl⟩ := trodAll_nil h
    exact trodAll_mk0
  | cons t ts ih =>
    intro vs ds p hr h hlt
    obtain ⟨v, vs', d, ds', p, q, rfl, rfl, rfl, h1, h2⟩ := trodAll_cons h
    have hr' : rowB t = true ∧ readB ts = true := by rw [readB, List.all_cons, Bool.and_eq_true] at hr; exact hr
    exact trodAll_cons_mk (Below.trod Try.laidOut (rowB_out hr'.1).1 (rowB_out hr'.1).2 h1 hb fun x hx => hlt x (List.mem_append_left _ hx))
      (ih vs' ds' q hr'.2 h2 fun x hx => hlt x (List.mem_append_right _ hx))

theorem law_post {f : Func} {s : ChangeSpec} {t : TypeId} {W W' : World} {args : Array Value} {ds gs : List (DataW H)} {before : List MemPlace}
    (ht : Try.prog.underlying t = some .bool) (hres : f.resultTypes = #[t]) (hts : readB f.params.toList = true) (hvars : s.vars = [])
    (h1 : (s.fn H (ds ++ gs)).results = [.lit (.bool true)]) (h2 : (s.fn H (ds ++ gs)).args = ds)
    (hW : DataW.Whole enc Try.prog f.params.toList s.vars false W args.toList ds gs before) (hb : Below W.heap.size W W')
    (hv0 : (s.fn H (ds ++ gs)).vars = []) :
    s.post enc Try.prog f false true false false W args (.bool true) W' := by
  have hlt := hW.lt
  have hW2 := hW
  obtain ⟨p, q, hA, hV, hp, _⟩ := hW
  refine ⟨ds, gs, before, [], p, [], hW2, ?_, ?_, ?_, hb.frame _, fun h => by cases h⟩
  · rw [h1, hres]
    exact trodAll_mk1 (shut_bool ht true)
  · rw [h2]
    exact trodAll_keep hb _ _ _ _ hts hA fun x hx => by simpa using hlt x (by rw [hp]; simp [hx])
  · rw [hv0, hvars]
    rfl

/-! ### arguments -/
def wt (t : TypeId) (d : DataW H) : Prop := (d.weights Try.prog t).all (· ≤ reachBytes) = true
theorem wt_cons {t : TypeId} {ts : List TypeId} {d : DataW H} {ds : List (DataW H)} (h : (DataW.weightsEach Try.prog (t :: ts) (d :: ds)).all (· ≤ reachBytes) = true) :
    wt t d ∧ (DataW.weightsEach Try.prog ts ds).all (· ≤ reachBytes) = true := by
  simpa [DataW.weightsEach, wt, List.all_append, Bool.and_eq_true] using h

set_option maxRecDepth 100000 in
theorem open_bytes {W : World} {r : Reach} {b0 : Nat} {v : Value} {d : DataW H} {p : List MemPlace} (hv : Value.okWide Try.prog W r b0 27 v)
    (h : DataW.Trod enc Try.prog W 0 (fun _ => true) true 27 v d p) (hw : wt 27 d) :
    ∃ A cap l, v = .slice A (List.length l) cap ∧ l.length ≤ cap ∧ cap ≤ 140737488351232 ∧ Bs W W.heap.size A l := by
  obtain ⟨A, n, cap, rfl⟩ := okWide_slice Try.underlying27 hv
  obtain ⟨fuel, hf⟩ := h
  rcases open_ints Try.underlying27 Try.underlying5 (by kernel_rfl) hf with ⟨hcs, hx⟩ | ⟨a, n', cap', zs, hcs, _, hl, hm, hz, hx, hcell, hwz⟩
  · simp [Value.cells] at hcs
    obtain ⟨rfl, rfl, rfl⟩ := hcs
    exact ⟨none, 0, [], rfl, Nat.le_refl _, by omega, Rd.nil⟩
  · simp [Value.cells] at hcs
    obtain ⟨rfl, rfl, rfl⟩ := hcs
    simp only [Prod.mk.injEq] at hx
    obtain ⟨rfl, rfl⟩ := hx
    simp only [if_true] at hz
    have hcap : cap ≤ 140737488351232 := by
      have hb : Try.prog.bytesOf 5 = 1 := by kernel_rfl
      simp only [wt, DataW.weights, Try.underlying27, lits, List.length_map, List.length_take, List.length_drop, hb, List.all_cons, Bool.and_eq_true] at hw
      have := of_decide_eq_true hw.1
      simp only [reachBytes] at this
      omega
    refine ⟨some a, cap, (zs.take n).map fun z => z.toNat.toUInt8, ?_, ?_, hcap, ?_⟩
    · simp [Nat.min_eq_left (by omega : n ≤ zs.length)]
    · simp [Nat.min_eq_left (by omega : n ≤ zs.length)]; omega
    · by_cases h0 : n = 0
      · subst h0; exact .inl (by simp)
      · have hc0 := hcell 0 (by omega)
        have hsp : a.spot = none := by
          cases hs : a.spot with
          | none => rfl
          | some y =>
            simp only [Addr.add, if_true, World.cell?, hs, Option.isSome_some] at hc0
            split at hc0 <;> simp at hc0
        have hadd : ∀ i, a.add i = ⟨a.block, a.off + i, none⟩ := fun i => by
          unfold Addr.add
          split
          · rename_i h; subst h; cases a; simp_all
          · simp
        refine .inr ⟨a.block, a.off, by cases a; simp_all, by simpa [block_add] using World.block_lt_of_cell? _ _ hc0, fun j u hu => ?_⟩
        have hj : j < n := by
          have := (List.getElem?_eq_some_iff.1 hu).1
          simp only [List.length_map, List.length_take] at this; omega
        rw [← hadd j, hcell j (by omega)]
        have hb := byte_of_wf (hwz (zs.getD j 0) (by simp [List.getD, List.getElem?_eq_getElem (show j < zs.length by omega)]))
        rw [List.getElem?_map, List.getElem?_map, List.getElem?_take_of_lt hj, List.getElem?_eq_getElem (show j < zs.length by omega)] at hu
        simp only [Option.map_some, Option.some.injEq] at hu
        rw [← hu]
        simp only [List.getD, List.getElem?_eq_getElem (show j < zs.length by omega), Option.getD_some] at hb ⊢
        simp only [byteV, UInt8.toNat_ofNat', Nat.toUInt8, Option.some.injEq, Value.int.injEq, true_and]
        omega

set_option maxRecDepth 100000 in
theorem open_key {W : World} {r : Reach} {b0 : Nat} {v : Value} {d : DataW H} {p : List MemPlace} (hv : Value.okWide Try.prog W r b0 45 v)
    (h : DataW.Trod enc Try.prog W 0 (fun _ => true) true 45 v d p) (hw : wt 45 d) :
    ∃ (u : ByteArray) (s k : Int), v = .agg #[.string u, .int .u64 s, .int .i64 k] ∧ u.size ≤ 140737488351232 ∧ 0 ≤ s ∧ s ≤ 18446744073709551615 ∧ -9223372036854775808 ≤ k ∧ k ≤ 9223372036854775807 := by
  obtain ⟨v0, v1, v2, y0, y1, y2, n, rfl, rfl, rfl, e0, e1, e2⟩ := Go.Joins.open_agg3 Try.underlying45 (by kernel_rfl) (by kernel_rfl) hv h
  obtain ⟨s0, h0, rfl, _⟩ := DataW.trod_string Try.underlying9 e0
  obtain ⟨s1, h1, rfl, w1⟩ := DataW.trod_int Try.underlying30 e1
  obtain ⟨s2, h2, rfl, w2⟩ := DataW.trod_int Try.underlying3 e2
  simp only [List.cons.injEq, and_true] at h0 h1 h2
  subst h0 h1 h2
  refine ⟨s0, s1, s2, rfl, ?_, ?_⟩
  · simp [wt, DataW.weights, Try.underlying45, DataW.weightsEach, reachBytes] at hw
    exact of_decide_eq_true hw
  · simp [Lit.wf, IntKind.min, IntKind.max, IntKind.signed, IntKind.bits] at w1 w2
    omega
end
end Go.Proofs.Ytodnojpolkdlmaa
