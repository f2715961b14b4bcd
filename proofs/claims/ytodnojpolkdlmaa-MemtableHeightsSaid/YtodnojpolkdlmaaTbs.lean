/-
  Tombstones, cloned; two lists of them that read alike are the same; Back handed out.
-/
import Derived.Test.YtodnojpolkdlmaaLvM
import Derived.Deep.QuietTactic
import Derived.BigQuiet
namespace Go.Proofs.Ytodnojpolkdlmaa
set_option linter.unusedSimpArgs false
set_option linter.unusedVariables false
open Go.RowKit Go.IntWalk
attribute [local go_sem ↓] Go.wp_at_zero Go.wp_at_succ

set_option maxRecDepth 100000 in
theorem clT_nil (w : World) : Calls Try.prog 37 #[.slice none 0 0] w fun e w' => e = .returned (.slice none 0 0) ∧ w' = w := by
  have hq : ∀ w : World, (binOp .eql 51 (.slice none 0 0) (.slice none 0 0)).run Try.prog w = .ok (.bool true) w := fun w => run_eql_nil_slice w 51 71 none 0 0 0 0 Try.underlying51
  go_enter Try.func37, Try.ntmps37
  go_wp2
  go_ret
  exact ⟨rfl, rfl⟩
set_option maxHeartbeats 1000000 in
set_option maxRecDepth 100000 in
theorem clT_any (b off cap : Nat) (l : List Tb) (w : World) (hl : l.length ≤ 1000000) (hbs : Rd w w.heap.size (some ⟨b, off, none⟩) (tbsC l)) :
    Calls Try.prog 37 #[.slice (some ⟨b, off, none⟩) l.length cap] w fun e w' => ∃ v, e = .returned v ∧ Below w.heap.size w w' ∧ Own w' w.heap.size 71 3 v l.length (tbsC l) := by
  obtain ⟨i0, hi, hz0, hz1, hz2⟩ := info_parts info_tomb
  have HO0 := Lib.hid ((Blk.new w 71 #[]).own (base := w.heap.size) (n := 0) (cap := 0) (size := 3) (xs := []) (Nat.le_refl _) (Nat.le_refl _) (by unfold maxLen; omega) rfl rfl)
  have hb0 : Below w.heap.size w (w.alloc (.cells #[] 71)) := (Below.refl _ w).alloc (Nat.le_refl _) _
  have HB0 := Lib.hid hb0
  have HS0 := Lib.hid (hbs.keep hb0)
  clear hbs hb0
  have hq : ∀ w : World, (binOp .eql 51 (.slice (some ⟨b, off, none⟩) l.length cap) (.slice none 0 0)).run Try.prog w = .ok (.bool false) w := fun w => Lib.run_eql_slice_nil w 51 71 (some ⟨b, off, none⟩) l.length cap 0 0 Try.underlying51
  go_enter Try.func37, Try.ntmps37
  go_wp2_with (at_builtin; go_loud (refine wpList_append _ rfl _ _ 51 51 rfl w.heap.size 71 i0 _ 3 40 Try.underlying51 hi hz0 hz1 hz2 rfl (by decide) _ 0 [] rfl HO0.out _ l.length (tbsC l) rfl (Src.slice _ Try.underlying51 (by rw [tbsC_len]) HS0.out) ?c1 ?c2 ?c3 ?c4 ?_; (case c1 => (intro u hu; unfold tbsC at hu; obtain ⟨x, _, hx⟩ := List.mem_flatMap.1 hu; simp [tbC] at hx; rcases hx with rfl | rfl | rfl <;> rfl)); (case c2 => (unfold maxLen; omega)); (case c3 => omega); (case c4 => exact HB0.out.size); intro v1 w1 hO1 hG1 hl1; simp only [Nat.zero_add, List.nil_append] at hO1; have hb1 := HB0.out.grown hG1 HB0.out.size (fun k hk => (HO0.out.lt k hk).1); have HO1 := Lib.hid hO1; have HB1 := Lib.hid hb1; clear hO1 hG1 hl1 hb1))
  go_ret
  exact ⟨v1, rfl, HB1.out, HO1.out⟩
theorem mTombs_any {w : World} {g : Nat} {how : Int} {hl : List UInt8} {S : TS} {F H : List Nat} (h : Tab w g how hl S F H) (hn : S.n ≤ 1000000) :
    Calls Try.prog 18 #[.pointer (some ⟨g, 0, none⟩)] w fun e w' => ∃ v, e = .returned v ∧ Below w.heap.size w w' ∧ Own w' w.heap.size 71 3 v S.t.length (tbsC S.t) := by
  obtain ⟨hb, hA, hc, tv, hu, hs, hk, hval, N, hp⟩ := h.parts
  have htn : S.t.length ≤ 1000000 := by have : S.n = S.l.length + S.t.length := rfl; omega
  have c8 : w.cell? ⟨g, 8, none⟩ = some tv := hp.tbl.blk.cell 8
  have hC : Calls Try.prog 37 #[tv] w fun e w' => ∃ v, e = .returned v ∧ Below w.heap.size w w' ∧ Own w' w.heap.size 71 3 v S.t.length (tbsC S.t) := by
    have ho := hp.own
    rcases hp.own.2 with ⟨rfl, h0⟩ | ⟨b, cap, cur, fz, rfl, -, -, -, -, -, -, -⟩
    · rw [List.eq_nil_of_length_eq_zero h0]
      exact (clT_nil w).mono fun e w' ⟨a, b⟩ => ⟨_, a, by rw [b]; exact Below.refl _ _, by rw [b]; exact Own.nil _ _ _ _⟩
    · exact clT_any b 0 cap S.t w htn hp.own.rd'
  have HC := Lib.hid hC
  clear hC hp h
  go_enter Try.func18, Try.ntmps18
  go_wp2_with fail
  refine HC.out.mono ?_
  rintro e w' ⟨v, rfl, hb', ho'⟩
  go_wp2_with fail
  go_ret
  exact ⟨v, rfl, hb', ho'⟩
set_option maxHeartbeats 1000000 in
theorem tombs07_yes (l : List Tb) (A1 A2 : Option Addr) (c1 c2 B1 B2 : Nat) (w : World) (hl : l.length ≤ 140737488351240) (h1 : Rd w B1 A1 (tbsC l)) (h2 : Rd w B2 A2 (tbsC l)) (hB1 : B1 ≤ w.heap.size) (hB2 : B2 ≤ w.heap.size) :
    Calls Try.prog 17 #[.slice A1 l.length c1, .slice A2 l.length c2] w fun e w' => e = .returned (.bool true) ∧ Below w.heap.size w w' := by
  go_enter Try.func17, Try.ntmps17
  go_wp2
  go_loopw [5] (fun i wr => ∃ k : Nat, k ≤ l.length ∧ i = .int .i64 k ∧ Hid (Below w.heap.size w wr)) (fun i _ => l.length - (intOf i).toNat)
  case atStart => exact ⟨0, Nat.zero_le _, rfl, Below.refl _ _⟩
  case round =>
    obtain ⟨k, hk, rfl, HW⟩ := hrel
    by_cases hka : k < l.length
    · obtain ⟨b1, o1, rfl, -, t0, t1, t2⟩ := tb_at (h1.keep (HW.out.mono hB1)) hka
      obtain ⟨b2, o2, rfl, -, r0, r1, r2⟩ := tb_at (h2.keep (HW.out.mono hB2)) hka
      generalize l[k] = ee at *
      obtain ⟨xb, xe, xs⟩ := ee
      dsimp only at t0 t1 t2 r0 r1 r2
      go_wp2_with fail
      go_quiet (fail)
      go_wp2_with fail
      go_roundw
      case rel => exact ⟨k + 1, by omega, by go_num, below_drewN HW.out _⟩
      case measure => simp [intOf]; omega
    · obtain rfl : k = l.length := by omega
      go_wp2
      go_ret
      exact ⟨rfl, HW.out⟩
theorem mBack_any (g : Nat) (u : ByteArray) (s k : Int) (w : World) : Calls Try.prog 13 #[.pointer (some ⟨g, 0, none⟩), .agg #[.string u, .int .u64 s, .int .i64 k]] w fun e w' =>
    e = .returned (.func (.func 34) #[] #[.pointer (some ⟨w.heap.size, 0, none⟩), .pointer (some ⟨w.heap.size + 1, 0, none⟩)]) ∧ w' = (w.alloc (.cells #[.pointer (some ⟨g, 0, none⟩)] 23)).alloc (.cells #[.string u, .int .u64 s, .int .i64 k] 45) := by
  go_enter Try.func13, Try.ntmps13
  go_wp2_with fail
  go_ret
  exact ⟨rfl, rfl⟩
end Go.Proofs.Ytodnojpolkdlmaa
