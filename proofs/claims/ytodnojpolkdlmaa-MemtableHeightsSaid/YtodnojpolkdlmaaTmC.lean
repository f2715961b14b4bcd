/-
  A table of nothing.
-/
import Derived.Test.YtodnojpolkdlmaaTmB
import Derived.Test.YtodnojpolkdlmaaSkF
import Derived.WalkSpells
namespace Go.Proofs.Ytodnojpolkdlmaa
set_option linter.unusedSimpArgs false
set_option linter.unusedVariables false
open Go.RowKit Go.IntWalk

set_option maxRecDepth 100000 in
theorem clB_nil (w : World) : Calls Try.prog 22 #[.slice none 0 0] w fun e w' => e = .returned (.slice none 0 0) ∧ w' = w := by
  have hq : ∀ w : World, (binOp .eql 27 (.slice none 0 0) (.slice none 0 0)).run Try.prog w = .ok (.bool true) w := fun w => run_eql_nil_slice w 27 5 none 0 0 0 0 Try.underlying27
  go_enter Try.func22, Try.ntmps22
  go_wp2
  go_ret
  exact ⟨rfl, rfl⟩
set_option maxHeartbeats 1000000 in
set_option maxRecDepth 100000 in
/-- a clone: the same bytes in a slice of the call's own (or no address) -/
theorem clB_any (b off cap : Nat) (l : List UInt8) (w : World) (hl : l.length ≤ 140737488351232) (hbs : Bs w w.heap.size (some ⟨b, off, none⟩) l) :
    Calls Try.prog 22 #[.slice (some ⟨b, off, none⟩) l.length cap] w fun e w' => ∃ A c, e = .returned (.slice A l.length c) ∧ Below w.heap.size w w' ∧ Own w' w.heap.size 5 1 (.slice A l.length c) l.length (l.map byteV) := by
  obtain ⟨i0, hi, hz0, hz1, hz2⟩ := info_parts info_byte
  have HO0 := Lib.hid ((Blk.new w 5 #[]).own (base := w.heap.size) (n := 0) (cap := 0) (size := 1) (xs := []) (Nat.le_refl _) (Nat.le_refl _) (by unfold maxLen; omega) rfl rfl)
  have hb0 : Below w.heap.size w (w.alloc (.cells #[] 5)) := (Below.refl _ w).alloc (Nat.le_refl _) _
  have HB0 := Lib.hid hb0
  have HS0 := Lib.hid (hbs.keep hb0)
  clear hbs hb0
  have hq : ∀ w : World, (binOp .eql 27 (.slice (some ⟨b, off, none⟩) l.length cap) (.slice none 0 0)).run Try.prog w = .ok (.bool false) w := fun w => Lib.run_eql_slice_nil w 27 5 (some ⟨b, off, none⟩) l.length cap 0 0 Try.underlying27
  go_enter Try.func22, Try.ntmps22
  go_wp2_with (at_builtin; go_loud (refine wpList_append _ rfl _ _ 27 27 rfl w.heap.size 5 i0 (.int .u8 0) 1 1 Try.underlying27 hi hz0 hz1 hz2 rfl (by decide) _ 0 [] rfl HO0.out _ l.length (l.map byteV) rfl (Src.slice _ Try.underlying27 (by simp) HS0.out) ?c1 ?c2 ?c3 ?c4 ?_; (case c1 => (intro u hu; obtain ⟨x, _, rfl⟩ := List.mem_map.1 hu; rfl)); (case c2 => (unfold maxLen; omega)); (case c3 => omega); (case c4 => exact HB0.out.size); intro v1 w1 hO1 hG1 hl1; simp only [Nat.zero_add, List.nil_append] at hO1; have hb1 := HB0.out.grown hG1 HB0.out.size (fun k hk => (HO0.out.lt k hk).1); obtain ⟨A1, c1, rfl, -⟩ := hO1.rd; have HO1 := Lib.hid hO1; have HB1 := Lib.hid hb1; clear hO1 hG1 hl1 hb1))
  go_ret
  exact ⟨A1, c1, rfl, HB1.out, HO1.out⟩
theorem clB_all (A : Option Addr) (cap : Nat) (l : List UInt8) (w : World) (hl : l.length ≤ 140737488351232) (hbs : Bs w w.heap.size A l) (hA : A = none → l = [] ∧ cap = 0) (hs : ∀ a, A = some a → a.spot = none) :
    Calls Try.prog 22 #[.slice A l.length cap] w fun e w' => ∃ A c, e = .returned (.slice A l.length c) ∧ Below w.heap.size w w' ∧ Own w' w.heap.size 5 1 (.slice A l.length c) l.length (l.map byteV) := by
  rcases A with _ | ⟨b, off, sp⟩
  · obtain ⟨rfl, rfl⟩ := hA rfl
    exact (clB_nil w).mono fun e w' ⟨h1, h2⟩ => ⟨none, 0, h1, by rw [h2]; exact Below.refl _ _, by rw [h2]; exact Own.nil _ _ _ _⟩
  · have := hs _ rfl
    dsimp only at this
    subst this
    exact clB_any b off cap l w hl hbs
theorem blk_at {w : World} {n : Nat} {t : TypeId} {cs : Array Value} (h : n = w.heap.size) : Blk (w.alloc (.cells cs t)) n t cs := by subst h; exact Blk.new w t cs
theorem rowN_nil (h : Nat) : rowN [] h = nilRow h := by
  unfold rowN nilRow
  apply Array.ext'
  apply List.ext_getElem
  · simp
  · intro i h1 h2
    simp [nxtB, ptrV]
theorem mNew_bad (how : Int) (hv : Value) (w : World) (h0 : how ≠ 0) (h1 : how ≠ 1) : Calls Try.prog 7 #[.int .i64 how, hv] w fun e w' => e = .returned (.tuple #[.pointer none, .int .i64 1]) ∧ w' = w := by
  have e0 : (how != 0) = true := by simpa using h0
  have e1 : (how != 1) = true := by simpa using h1
  clear h0 h1
  go_enter Try.func7, Try.ntmps7
  go_wp2
  go_ret2
  exact ⟨rfl, rfl⟩
set_option maxHeartbeats 1000000 in
set_option maxRecDepth 100000 in
theorem mNew_any (how : Int) (A : Option Addr) (cap : Nat) (l : List UInt8) (w : World) (hh : how = 0 ∨ how = 1) (hl : l.length ≤ 140737488351232) (hbs : Bs w w.heap.size A l) (hA : A = none → l = [] ∧ cap = 0) (hs : ∀ a, A = some a → a.spot = none) :
    Calls Try.prog 7 #[.int .i64 how, .slice A l.length cap] w fun e w' => ∃ g hb hA hc, e = .returned (.tuple #[.pointer (some ⟨g, 0, none⟩), .int .i64 0]) ∧ Below w.heap.size w w' ∧ w.heap.size ≤ g ∧ g < hb ∧ (∀ a, hA = some a → w.heap.size ≤ a.block ∧ a.block < g) ∧
      Bs w' g hA l ∧ Tbl w' g hb how (.slice hA l.length hc) (.string ⟨#[]⟩) (.int .u64 0) (.int .i64 0) (.string ⟨#[]⟩) (.slice none 0 0) (.int .i64 0) (.int .u64 0) (.int .u64 0) [] := by
  have HC := Lib.hid (clB_all A cap l w hl hbs hA hs)
  have hmk : ∀ w, (Instr.makeSlice 64 (.int .i64 12) (.int .i64 12)).run Try.prog w = .ok (.slice (some ⟨w.heap.size, 0, none⟩) 12 12) (w.alloc (.cells (nilRow 12) 77)) := fun w => make_nodes 12 (by omega) w
  clear hbs hA hs
  rcases hh with rfl | rfl
  all_goals
    go_enter Try.func7, Try.ntmps7
    go_wp2_with fail
    refine HC.out.mono ?_
    rintro e w1 ⟨A1, c1, rfl, hb1, ho1⟩
    have HB1 := Lib.hid hb1
    have HR1 := Lib.hid ho1.rd'
    have HL1 := Lib.hid ho1.lt
    clear hb1 ho1
    go_wp2_with fail
    go_ret2
    have hz1 := HB1.out.size
    refine ⟨w1.heap.size, w1.heap.size + 1, A1, c1, rfl, (HB1.out.alloc hz1 _).alloc (by simp; omega) _, hz1, by omega, ?_, ?_, ?_, ?_, trivial⟩
    · intro a ha; exact HL1.out a.block (by rw [ha]; rfl)
    · exact (HR1.out.keep ((Below.refl _ w1).alloc (Nat.le_refl _) _)).keep ((Below.refl w1.heap.size _).alloc (by simp) _)
    · exact (Blk.new w1 _ _).alloc _
    · rw [rowN_nil]
      exact blk_at (World.size_alloc _ _).symm
end Go.Proofs.Ytodnojpolkdlmaa
