/-
  Add, in one statement.
-/
import Derived.Test.YtodnojpolkdlmaaTmQ
namespace Go.Proofs.Ytodnojpolkdlmaa
set_option linter.unusedSimpArgs false
set_option linter.unusedVariables false
open Go.RowKit Go.IntWalk

theorem AddP.none {w w' : World} {g : Nat} {how : Int} {hl : List UInt8} {S : TS} {F H : List Nat} (ht : Tab w g how hl S F H) (hb : Below w.heap.size w w') : AddP w g how hl S F H w' :=
  ⟨F, ht.below hb, Chg.below hb, fun k hk => .inl hk⟩
theorem mAdd_any {w : World} {g : Nat} {how : Int} {hl : List UInt8} {S : TS} {F H : List Nat} (ht : Tab w g how hl S F H) (hH : ∀ k ∈ H, k < w.heap.size) (hll : hl.length ≤ 1000000000000000) (hok : TOk how S) (seq : Int) (r : Rc) :
    Calls Try.prog 9 #[.pointer (some ⟨g, 0, none⟩), .int .u64 seq, .agg #[.int .u32 r.f, .int .i64 r.k, .string r.key, .string r.v]] w fun e w' => e = .returned (.int .i64 (addS how S seq r).2) ∧ AddP w g how hl (addS how S seq r).1 F H w' := by
  have hn := hok.n
  by_cases h1 : 72057594037927935 < seq
  · have e : addS how S seq r = (S, 1) := by unfold addS; rw [if_pos h1]
    rw [e]
    exact (mAdd_arg g seq r w h1).mono fun e w' ⟨a, b⟩ => ⟨a, AddP.none ht b⟩
  have h1' : seq ≤ 72057594037927935 := by omega
  by_cases h2 : chkR r = 0
  · by_cases h3 : 8192 ≤ S.n
    · have e : addS how S seq r = (S, 2) := by unfold addS; rw [if_neg h1, if_neg (by simp [h2]), if_pos h3]
      rw [e]
      exact (mAdd_full ht (by omega) seq r h1' h2 h3).mono fun e w' ⟨a, b⟩ => ⟨a, AddP.none ht b⟩
    · have hc := (chkR_zero h2).1
      by_cases h4 : r.k = 2
      · obtain ⟨f, k, key, v⟩ := r
        dsimp only at h4
        subst h4
        by_cases h5 : thereT how S.t ⟨key, v, seq⟩ = true
        · have e : addS how S seq ⟨f, 2, key, v⟩ = (S, 7) := by unfold addS; rw [if_neg h1, if_neg (by simp [h2]), if_neg h3, if_pos rfl]; dsimp only; rw [if_pos h5]
          rw [e]
          exact (mAdd_tomb_there ht hok.st seq f key v h1' h2 (by omega) h5).mono fun e w' ⟨a, b⟩ => ⟨a, AddP.none ht b⟩
        · have e : addS how S seq ⟨f, 2, key, v⟩ = ({ S with t := insL S.t (posT how S.t ⟨key, v, seq⟩) ⟨key, v, seq⟩ }.fin seq key.size v.size, 0) := by unfold addS; rw [if_neg h1, if_neg (by simp [h2]), if_neg h3, if_pos rfl]; dsimp only; rw [if_neg h5]
          rw [e]
          exact mAdd_tomb_new ht hH hok.st seq f key v h1' h2 (by omega) (by simpa using h5)
      · obtain ⟨f, k, key, v⟩ := r
        dsimp only at h4 hc
        have hk : k = 0 ∨ k = 1 := by omega
        rcases hk with rfl | rfl
        · have hp : plainV ⟨f, 0, key, v⟩ = ⟨#[]⟩ := rfl
          by_cases h5 : thereE how S.l ⟨key, seq, 0⟩ = true
          · have e : addS how S seq ⟨f, 0, key, v⟩ = (S, 7) := by unfold addS; rw [if_neg h1, if_neg (by simp [h2]), if_neg h3, if_neg h4]; dsimp only; rw [if_pos h5]
            rw [e]
            exact (mAdd_del_there ht hok.sl seq f key v h1' h2 (by omega) h5).mono fun e w' ⟨a, b⟩ => ⟨a, AddP.none ht b⟩
          · have e : addS how S seq ⟨f, 0, key, v⟩ = ({ S with l := insE S.l (posE how S.l ⟨key, seq, 0⟩) ⟨⟨key, seq, 0⟩, ⟨#[]⟩⟩ }.fin seq key.size (⟨#[]⟩ : ByteArray).size, 0) := by unfold addS; rw [if_neg h1, if_neg (by simp [h2]), if_neg h3, if_neg h4]; dsimp only; rw [if_neg h5, hp]
            rw [e]
            exact mAdd_del_new ht hH hll hok.sl seq f key v h1' h2 (by omega) (by simpa using h5)
        · have hp : plainV ⟨f, 1, key, v⟩ = v := rfl
          by_cases h5 : thereE how S.l ⟨key, seq, 1⟩ = true
          · have e : addS how S seq ⟨f, 1, key, v⟩ = (S, 7) := by unfold addS; rw [if_neg h1, if_neg (by simp [h2]), if_neg h3, if_neg h4]; dsimp only; rw [if_pos h5]
            rw [e]
            exact (mAdd_put_there ht hok.sl seq f key v h1' h2 (by omega) h5).mono fun e w' ⟨a, b⟩ => ⟨a, AddP.none ht b⟩
          · have e : addS how S seq ⟨f, 1, key, v⟩ = ({ S with l := insE S.l (posE how S.l ⟨key, seq, 1⟩) ⟨⟨key, seq, 1⟩, v⟩ }.fin seq key.size v.size, 0) := by unfold addS; rw [if_neg h1, if_neg (by simp [h2]), if_neg h3, if_neg h4]; dsimp only; rw [if_neg h5, hp]
            rw [e]
            exact mAdd_put_new ht hH hll hok.sl seq f key v h1' h2 (by omega) (by simpa using h5)
  · have e : addS how S seq r = (S, chkR r) := by unfold addS; rw [if_neg h1, if_pos h2]
    rw [e]
    exact (mAdd_chk g seq r w h1' h2).mono fun e w' ⟨a, b⟩ => ⟨a, AddP.none ht b⟩
end Go.Proofs.Ytodnojpolkdlmaa
