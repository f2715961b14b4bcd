/-
  What a table tells of itself.
-/
import Derived.Test.YtodnojpolkdlmaaTmK
import Derived.StillTailTactics
import Derived.Deep.QuietTactic
import Derived.BigQuiet
namespace Go.Proofs.Ytodnojpolkdlmaa
set_option linter.unusedSimpArgs false
set_option linter.unusedVariables false
open Go.RowKit Go.IntWalk

theorem Own.slice_ {w : World} {base : Nat} {e : TypeId} {size : Nat} {v : Value} {n : Nat} {cs : List Value} (h : Own w base e size v n cs) : ∃ A c, v = .slice A n c ∧ n ≤ c ∧ c ≤ maxLen := by
  obtain ⟨A, c, rfl, h1, h2, -⟩ := h.rd
  exact ⟨A, c, rfl, h1, h2⟩
theorem mLen_any {w : World} {g : Nat} {how : Int} {hl : List UInt8} {S : TS} {F H : List Nat} (h : Tab w g how hl S F H) (hn : S.n ≤ 1000000) :
    Calls Try.prog 15 #[.pointer (some ⟨g, 0, none⟩)] w fun e w' => e = .returned (.int .i64 (S.n : Nat)) ∧ ∃ n, w' = w.drewN n := by
  obtain ⟨hb, hA, hc, tv, hu, hs, hk, hval, N, h1, h2, h3, h4, h5, h6, h7, h8⟩ := h
  obtain ⟨A, c, rfl, hc1, hc2⟩ := h5.slice_
  have hNl : N.length = S.l.length := by rw [← h1, List.length_map]
  have c7 := h4.blk.cell 7
  have c8 := h4.blk.cell 8
  rw [hNl] at c7
  have hSn : S.n = S.l.length + S.t.length := rfl
  rw [hSn] at hn ⊢
  have hw1 : IntKind.i64.wrap ((S.l.length : Int) + (S.t.length : Int)) = (S.l.length : Int) + (S.t.length : Int) := i64_in _ (by omega)
  simp only [List.getElem?_toArray, List.getElem?_cons_succ, List.getElem?_cons_zero] at c7 c8
  clear h1 h2 h3 h4 h5 h6 h7 h8
  go_enter Try.func15, Try.ntmps15
  go_wp2_with fail
  go_quiet (fail)
  go_wp2_with fail
  go_ret
  exact ⟨by simp, _, rfl⟩
theorem mSize_any {w : World} {g : Nat} {how : Int} {hl : List UInt8} {S : TS} {F H : List Nat} (h : Tab w g how hl S F H) :
    Calls Try.prog 16 #[.pointer (some ⟨g, 0, none⟩)] w fun e w' => e = .returned (.int .i64 S.size) ∧ w' = w := by
  obtain ⟨hb, hA, hc, tv, hu, hs, hk, hval, N, h1, h2, h3, h4, h5, h6, h7, h8⟩ := h
  have c9 := h4.blk.cell 9
  simp only [List.getElem?_toArray, List.getElem?_cons_succ, List.getElem?_cons_zero] at c9
  clear h1 h2 h3 h4 h5 h6 h7 h8
  go_enter Try.func16, Try.ntmps16
  go_wp2_with fail
  go_ret
  exact ⟨rfl, rfl⟩
theorem mFirst_any {w : World} {g : Nat} {how : Int} {hl : List UInt8} {S : TS} {F H : List Nat} (h : Tab w g how hl S F H) :
    Calls Try.prog 44 #[.pointer (some ⟨g, 0, none⟩)] w fun e w' => e = .returned (.int .u64 S.first) ∧ w' = w := by
  obtain ⟨hb, hA, hc, tv, hu, hs, hk, hval, N, h1, h2, h3, h4, h5, h6, h7, h8⟩ := h
  have c9 := h4.blk.cell 10
  simp only [List.getElem?_toArray, List.getElem?_cons_succ, List.getElem?_cons_zero] at c9
  clear h1 h2 h3 h4 h5 h6 h7 h8
  go_enter Try.func44, Try.ntmps44
  go_wp2_with fail
  go_ret
  exact ⟨rfl, rfl⟩
theorem mLast_any {w : World} {g : Nat} {how : Int} {hl : List UInt8} {S : TS} {F H : List Nat} (h : Tab w g how hl S F H) :
    Calls Try.prog 45 #[.pointer (some ⟨g, 0, none⟩)] w fun e w' => e = .returned (.int .u64 S.last) ∧ w' = w := by
  obtain ⟨hb, hA, hc, tv, hu, hs, hk, hval, N, h1, h2, h3, h4, h5, h6, h7, h8⟩ := h
  have c9 := h4.blk.cell 11
  simp only [List.getElem?_toArray, List.getElem?_cons_succ, List.getElem?_cons_zero] at c9
  clear h1 h2 h3 h4 h5 h6 h7 h8
  go_enter Try.func45, Try.ntmps45
  go_wp2_with fail
  go_ret
  exact ⟨rfl, rfl⟩
end Go.Proofs.Ytodnojpolkdlmaa
