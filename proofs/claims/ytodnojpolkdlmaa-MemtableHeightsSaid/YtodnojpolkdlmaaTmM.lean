/-
  Add refused.
-/
import Derived.Test.YtodnojpolkdlmaaTmL
namespace Go.Proofs.Ytodnojpolkdlmaa
set_option linter.unusedSimpArgs false
set_option linter.unusedVariables false
open Go.RowKit Go.IntWalk

theorem Tab.below {w w' : World} {g : Nat} {how : Int} {hl : List UInt8} {S : TS} {F H : List Nat} (h : Tab w g how hl S F H) (hb' : Below w.heap.size w w') : Tab w' g how hl S F H := by
  have hlt := h.lt
  obtain ⟨hb, hA, hc, tv, hu, hs, hk, hval, N, h1, h2, h3, h4, h5, h6, h7, h8⟩ := h
  have hF : ∀ k ∈ F, w'.heap[k]? = w.heap[k]? := fun k hk => hb'.block k (hlt k hk)
  exact ⟨hb, hA, hc, tv, hu, hs, hk, hval, N, h1, h2, h3, h4.keep fun k hk => hF k (by rw [h2]; exact List.mem_append_left _ hk), h5.of_block fun k hk => hF k (by rw [h2]; exact List.mem_append_right _ (by simp [hk])), h6.next hb', h7, h8⟩
theorem mAdd_arg (g : Nat) (seq : Int) (r : Rc) (w : World) (h : 72057594037927935 < seq) :
    Calls Try.prog 9 #[.pointer (some ⟨g, 0, none⟩), .int .u64 seq, .agg #[.int .u32 r.f, .int .i64 r.k, .string r.key, .string r.v]] w fun e w' => e = .returned (.int .i64 1) ∧ Below w.heap.size w w' := by
  have hd : decide (72057594037927935 < seq) = true := by simpa using h
  clear h
  go_enter Try.func9, Try.ntmps9
  go_wp2_with fail
  go_ret
  exact ⟨rfl, (Below.refl _ _).alloc (Nat.le_refl _) _⟩
theorem mAdd_chk (g : Nat) (seq : Int) (r : Rc) (w : World) (h : seq ≤ 72057594037927935) (hc : chkR r ≠ 0) :
    Calls Try.prog 9 #[.pointer (some ⟨g, 0, none⟩), .int .u64 seq, .agg #[.int .u32 r.f, .int .i64 r.k, .string r.key, .string r.v]] w fun e w' => e = .returned (.int .i64 (chkR r)) ∧ Below w.heap.size w w' := by
  have hd : decide (72057594037927935 < seq) = false := by simpa using h
  obtain ⟨f, k, key, v⟩ := r
  have HC := fun w => bChk_any ⟨f, k, key, v⟩ w
  dsimp only at HC ⊢
  generalize chkR ⟨f, k, key, v⟩ = c at *
  have hne : (c != 0) = true := by simpa using hc
  have HCC := Lib.hid HC
  clear h hc HC
  go_enter Try.func9, Try.ntmps9
  go_wp2_with fail
  refine (HCC.out _).mono ?_
  rintro e w1 ⟨rfl, hb1⟩
  have HB1 := Lib.hid (((Below.refl _ w).alloc (Nat.le_refl _) _).trans (hb1.mono (by simp)))
  clear hb1
  go_wp2_with fail
  go_ret
  exact ⟨rfl, HB1.out⟩
theorem mAdd_full {w : World} {g : Nat} {how : Int} {hl : List UInt8} {S : TS} {F H : List Nat} (ht : Tab w g how hl S F H) (hn : S.n ≤ 1000000) (seq : Int) (r : Rc) (h : seq ≤ 72057594037927935) (hc : chkR r = 0) (hf : 8192 ≤ S.n) :
    Calls Try.prog 9 #[.pointer (some ⟨g, 0, none⟩), .int .u64 seq, .agg #[.int .u32 r.f, .int .i64 r.k, .string r.key, .string r.v]] w fun e w' => e = .returned (.int .i64 2) ∧ Below w.heap.size w w' := by
  have hd : decide (72057594037927935 < seq) = false := by simpa using h
  obtain ⟨f, k, key, v⟩ := r
  have HC := fun w => bChk_any ⟨f, k, key, v⟩ w
  dsimp only at HC ⊢
  rw [hc] at HC
  have HCC := Lib.hid HC
  have HT := Lib.hid ht
  have hd2 : decide ((8192 : Int) ≤ (S.n : Int)) = true := by simp; omega
  clear h hc HC ht
  go_enter Try.func9, Try.ntmps9
  go_wp2_with fail
  refine (HCC.out _).mono ?_
  rintro e w1 ⟨rfl, hb1⟩
  have HB1 := Lib.hid (((Below.refl _ w).alloc (Nat.le_refl _) _).trans (hb1.mono (by simp)))
  clear hb1
  go_wp2_with fail
  refine (mLen_any (HT.out.below HB1.out) hn).mono ?_
  rintro e w2 ⟨rfl, nq, rfl⟩
  go_wp2_with fail
  go_ret
  exact ⟨rfl, below_drewN HB1.out _⟩
end Go.Proofs.Ytodnojpolkdlmaa
