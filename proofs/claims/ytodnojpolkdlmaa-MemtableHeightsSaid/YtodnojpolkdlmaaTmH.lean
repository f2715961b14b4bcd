/-
  slices.Insert of one tombstone: the four roads in one.
-/
import Derived.Test.YtodnojpolkdlmaaTmG
namespace Go.Proofs.Ytodnojpolkdlmaa
set_option linter.unusedSimpArgs false
set_option linter.unusedVariables false
open Go.RowKit Go.IntWalk

theorem Chg.grown {w w' : World} {row : Option Nat} {F : Nat → Prop} (h : w.grownBy w' row) (hF : ∀ k, row = some k → F k) : Chg w w' F :=
  ⟨h.os, h.tape, h.output, h.size, fun k hk hn => h.block k hk (fun e => hn (hF k e.symm))⟩
def insL (l : List Tb) (i : Nat) (x : Tb) : List Tb := l.take i ++ x :: l.drop i
theorem insL_len (l : List Tb) (i : Nat) (x : Tb) (hi : i ≤ l.length) : (insL l i x).length = l.length + 1 := by unfold insL; simp; omega
theorem tbsC_ins (l : List Tb) (i : Nat) (x : Tb) : tbsC (insL l i x) = tbsC (l.take i) ++ (tbC x ++ tbsC (l.drop i)) := by
  unfold insL; rw [tbsC_app, tbsC_one]
theorem insT_any (v : Value) (i : Nat) (l : List Tb) (x : Tb) (vb base : Nat) (w : World) (hl : l.length ≤ 1000000) (hi : i ≤ l.length) (ho : Own w base 71 3 v l.length (tbsC l)) (hv : Blk w vb 71 #[.string x.b, .string x.e, .int .u64 x.s]) (hne : v.ownBlock ≠ some vb) (hbase : base ≤ w.heap.size) :
    Calls Try.prog 26 #[v, .int .i64 i, .slice (some ⟨vb, 0, none⟩) 1 1] w fun e w' => ∃ v', e = .returned v' ∧ Own w' base 71 3 v' (l.length + 1) (tbsC (insL l i x)) ∧ Chg w w' (fun k => v.ownBlock = some k) ∧ (v'.ownBlock = v.ownBlock ∨ ∃ k, v'.ownBlock = some k ∧ w.heap.size ≤ k) := by
  rw [tbsC_ins]
  rcases ho.2 with ⟨rfl, hn⟩ | ⟨g, c, cur, fz, rfl, hbg, hg, hfz, hnc, hcm, hcs, htake⟩
  · obtain rfl : l = [] := List.eq_nil_of_length_eq_zero hn
    obtain rfl : i = 0 := by simpa using hi
    refine (insT_nil x vb base w hv hbase).mono ?_
    rintro e w' ⟨v', rfl, h1, h2, k, h3, h4⟩
    refine ⟨v', rfl, ?_, Chg.grown h2 (fun k hk => by cases hk), .inr ⟨k, h3, h4⟩⟩
    simpa [tbsC] using h1
  · by_cases hie : i = l.length
    · subst hie
      refine (insT_end g c l x vb base w hl ⟨hnc, hcm⟩ ho hv hbase).mono ?_
      rintro e w' ⟨v', rfl, h1, h2, h3⟩
      refine ⟨v', rfl, ?_, Chg.grown h2 (fun k hk => by simpa [Value.ownBlock] using hk), ?_⟩
      · rw [List.take_length, List.drop_length, show tbsC [] = [] from rfl, List.append_nil]; exact h1
      · simpa [Value.ownBlock] using h3
    · have hil : i < l.length := by omega
      by_cases hr : l.length + 1 ≤ c
      · refine (insT_shift g c i l x vb base w hl hil hr ho hv (by intro h; apply hne; simp [Value.ownBlock, h])).mono ?_
        rintro e w' ⟨rfl, h1, h2⟩
        exact ⟨_, rfl, h1, Chg.grown h2 (fun k hk => by simpa [Value.ownBlock] using hk), .inl rfl⟩
      · refine (insT_grow g c i l x vb base w hl hil hnc (by omega) ho hv hbase).mono ?_
        rintro e w' ⟨G, rfl, h1, h2⟩
        exact ⟨_, rfl, h1, Chg.grown h2 (fun k hk => by cases hk), .inr ⟨_, rfl, Nat.le_refl _⟩⟩
end Go.Proofs.Ytodnojpolkdlmaa
