/-
  Records put in one by one; two tables side by side.
-/
import Derived.Test.YtodnojpolkdlmaaLvM
namespace Go.Proofs.Ytodnojpolkdlmaa
set_option linter.unusedSimpArgs false
set_option linter.unusedVariables false
open Go.RowKit Go.IntWalk

/-- records put in one by one, at numbers that rise by one -/
def addsS (how : Int) : TS → Int → List Rc → TS
  | S, _, [] => S
  | S, n, r :: l => addsS how (addS how S n r).1 (n + 1) l
theorem addsS_snoc (how : Int) (r : Rc) : ∀ (l : List Rc) (S : TS) (n : Int), addsS how S n (l ++ [r]) = (addS how (addsS how S n l) (n + (l.length : Nat)) r).1
  | [], S, n => by show (addS how S n r).1 = (addS how S (n + ((0 : Nat) : Int)) r).1; rw [show n + ((0 : Nat) : Int) = n by omega]
  | x :: l, S, n => by
    show addsS how (addS how S n x).1 (n + 1) (l ++ [r]) = _
    rw [addsS_snoc how r l]
    show (addS how (addsS how (addS how S n x).1 (n + 1) l) (n + 1 + (l.length : Nat)) r).1 = (addS how (addsS how (addS how S n x).1 (n + 1) l) (n + ((l.length + 1 : Nat) : Int)) r).1
    rw [show n + 1 + ((l.length : Nat) : Int) = n + ((l.length + 1 : Nat) : Int) by omega]
theorem take_snoc {α : Type} (l : List α) (k : Nat) (h : k < l.length) : l.take (k + 1) = l.take k ++ [l[k]] := by
  rw [List.take_add_one, List.getElem?_eq_getElem h]; rfl
theorem addsS_step (how : Int) (S : TS) (n : Int) (l : List Rc) (k : Nat) (h : k < l.length) : addsS how S n (l.take (k + 1)) = (addS how (addsS how S n (l.take k)) (n + (k : Nat)) l[k]).1 := by
  rw [take_snoc l k h, addsS_snoc, List.length_take, Nat.min_eq_left (Nat.le_of_lt h)]
theorem TOk.adds {how : Int} : ∀ (l : List Rc) (S : TS) (n : Int), TOk how S → TOk how (addsS how S n l)
  | [], _, _, h => h
  | r :: l, S, n, h => TOk.adds l _ _ (h.add n r)
theorem addsS_low {how m : Int} : ∀ (l : List Rc) (S : TS) (n : Int), m ≤ n → lowE m (addsS how S n l).l = lowE m S.l ∧ lowT m (addsS how S n l).t = lowT m S.t
  | [], _, _, _ => ⟨rfl, rfl⟩
  | r :: l, S, n, h => by
    have h1 := addS_low (how := how) S n r h
    have h2 := addsS_low (how := how) (m := m) l (addS how S n r).1 (n + 1) (by omega)
    exact ⟨h2.1.trans h1.1, h2.2.trans h1.2⟩
theorem mAdd_two {B : Nat} {w : World} {ga gb : Nat} {how : Int} {la lb : List UInt8} {S T : TS} (h : Two B w ga gb how la lb S T) (hB : B ≤ w.heap.size) (hll : la.length ≤ 1000000000000000) (hok : TOk how S) (seq : Int) (r : Rc) :
    Calls Try.prog 9 #[.pointer (some ⟨ga, 0, none⟩), .int .u64 seq, .agg #[.int .u32 r.f, .int .i64 r.k, .string r.key, .string r.v]] w fun e w' => e = .returned (.int .i64 (addS how S seq r).2) ∧ Two B w' ga gb how la lb (addS how S seq r).1 T ∧ Below B w w' := by
  obtain ⟨Fa, Ha, Fb, Hb, h1, h2, h3, h4, h5, h6⟩ := h
  exact (mAdd_any h1 h5 hll hok seq r).mono fun e w' ⟨a, b⟩ => ⟨a, Two.addL (S := S) h2 h3 h4 h5 h6 hB b⟩
theorem mGet_two {B : Nat} {w : World} {ga gb : Nat} {how : Int} {la lb : List UInt8} {S T : TS} (h : Two B w ga gb how la lb S T) (hok : TOk how S) (key : ByteArray) (seq : Int) :
    Calls Try.prog 10 #[.pointer (some ⟨ga, 0, none⟩), .string key, .int .u64 seq] w fun e w' => e = .returned (tripV (getS how S key seq)) ∧ Below w.heap.size w w' := by
  obtain ⟨F, H, h1⟩ := h.a
  exact mGet_any h1 hok key seq
theorem Two.new {w w1 w2 : World} {ga gb : Nat} {how : Int} {la lb : List UInt8} {B : Nat} (h1 : NewP w ga how la w1) (hB : B ≤ w.heap.size) (hb1 : Below w.heap.size w w1) (h2 : NewP w1 gb how lb w2) (hb2 : Below w1.heap.size w1 w2) : Two B w2 ga gb how la lb emptyS emptyS := by
  obtain ⟨Fa, Ha, a1, a2, a3⟩ := h1
  obtain ⟨Fb, Hb, b1, b2, b3⟩ := h2
  have hz1 := hb1.size
  have hz2 := hb2.size
  have hlt := a1.lt
  refine ⟨Fa, Ha, Fb, Hb, a1.below hb2, b1, fun k hk => ⟨Nat.le_trans hB (a2 k hk), fun hf => ?_, fun hf => ?_⟩, fun k hk => ⟨?_, fun hf => ?_, fun hf => ?_⟩, fun k hk => ?_, fun k hk => (b3 k hk).2⟩
  · have := hlt k hk; have := b2 k hf; omega
  · have := hlt k hk; have := (b3 k hf).1; omega
  · have := b2 k hk; omega
  · have := hlt k hf; have := b2 k hk; omega
  · have := b2 k hk; have := (a3 k hf).2; omega
  · have := (a3 k hk).2; omega
end Go.Proofs.Ytodnojpolkdlmaa
