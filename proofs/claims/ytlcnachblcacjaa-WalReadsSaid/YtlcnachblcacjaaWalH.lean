/-
  Logs of no bytes; Read of both; opened again.
-/
import Derived.Test.YtlcnachblcacjaaWalG
namespace Go.Proofs.Ytlcnachblcacjaa
set_option linter.unusedSimpArgs false
set_option linter.unusedVariables false
open Go.RowKit Go.IntWalk

theorem readR_nil (log : Int) : readR [] log = ([], 0, 0) := by rfl
set_option maxHeartbeats 1000000 in
theorem wNext_nil (q cap : Nat) (A : Option Addr) (log : Int) (w : World) (hblk : Blk w q 40 (rdC (.slice A 0 cap) log false 0 false)) :
    Calls Try.prog 11 #[.pointer (some ⟨q, 0, none⟩)] w fun e w' => e = .returned (.tuple #[.int .i64 0, .slice none 0 0, .int .i64 0]) ∧ Below w.heap.size w w' := by
  have c0 := hblk.cell 0
  have c3 := hblk.cell 3
  have c4 := hblk.cell 4
  have c5 := hblk.cell 5
  simp only [rdC, hdN, Bool.false_eq_true, if_false, List.getElem?_toArray, List.getElem?_cons_zero, List.getElem?_cons_succ] at c0 c3 c4 c5
  have HZ := Lib.hid (fun A cap w => wZero_any A cap [] 0 w (by simp) Rd.nil)
  clear hblk
  rcases A with _ | a
  all_goals
    go_enter Try.func11, Try.ntmps11
    go_wp2_with fail
    go_quiet (fail)
    go_wp2_with fail
    refine (HZ.out _ _ _).mono ?_
    rw [zeroL_nil]
    rintro e w1 ⟨rfl, hw1⟩
    subst hw1
    go_wp2_with fail
    refine (wEnd_any q false (w.drewN nq) c5).mono ?_
    rintro e w2 ⟨rfl, rfl⟩
    go_wp2_with fail
    go_ret3
    exact ⟨rfl, below_drewN (Below.refl _ _) _⟩
set_option maxHeartbeats 1000000 in
set_option maxRecDepth 100000 in
theorem wRead_nil (A : Option Addr) (cap : Nat) (log : Int) (w : World) : Calls Try.prog 4 #[.slice A 0 cap, .int .u32 log] w (ReadP w.heap.size w (readR [] log)) := by
  rw [readR_nil]
  have HK := Lib.hid (Blk.new w 40 #[.slice A 0 cap, .int .u32 log, .bool false, .int .i64 7, .int .i64 0, .bool false])
  go_enter Try.func4, Try.ntmps4
  go_wp2_with fail
  refine wp_loop_rounds 1 ?_
  rw [rounds_succ]
  go_wp2_with fail
  refine (wNext_nil w.heap.size cap A log _ HK.out).mono ?_
  rintro e w1 ⟨rfl, hb⟩
  have HB := Lib.hid (((Below.refl w.heap.size w).alloc (Nat.le_refl _) (.cells #[.slice A 0 cap, .int .u32 log, .bool false, .int .i64 7, .int .i64 0, .bool false] 40)).trans (hb.mono (by simp)))
  clear hb
  go_wp2_with fail
  go_ret3
  exact ⟨_, [], rfl, Own.nil _ _ _ _, trivial, HB.out⟩
set_option maxHeartbeats 1000000 in
theorem r5Frag_nil (A : Option Addr) (cap : Nat) (room h log bad : Int) (w : World) :
    Calls Try.prog 16 #[.slice A 0 cap, .int .i64 room, .int .i64 h, .int .u32 log, .bool false, .bool false, .int .i64 bad] w fun e w' => e = .returned (.tuple #[.int .i64 0, .slice none 0 0, .int .i64 0]) ∧ w' = w := by
  have HZ := Lib.hid (fun A cap w => rZero_any A cap [] 0 w (by simp) Rd.nil)
  go_enter Try.func16, Try.ntmps16
  go_wp2_with fail
  refine (HZ.out _ _ _).mono ?_
  rw [zeroL_nil]
  rintro e w1 ⟨rfl, rfl⟩
  go_wp2_with fail
  refine (r5End_any false _).mono ?_
  rintro e w2 ⟨rfl, rfl⟩
  go_wp2_with fail
  go_ret3
  exact ⟨rfl, rfl⟩
set_option maxHeartbeats 1000000 in
set_option maxRecDepth 100000 in
theorem rRead_nil (A : Option Addr) (cap : Nat) (log : Int) (w : World) : Calls Try.prog 5 #[.slice A 0 cap, .int .u32 log] w (ReadP w.heap.size w (readR [] log)) := by
  rw [readR_nil]
  have HREC := Lib.hid (r5Rec_any A cap [] 0 w (by simp) Rd.nil)
  have h0 : recB [] = false := rfl
  rw [h0] at HREC
  clear h0
  have hO := ((OutS.start (q := none) (Below.refl w.heap.size w) (Nat.le_refl _) (Nat.le_refl _)).freshO (fun k hk => by cases hk)).fresh (fun k hk => by cases hk)
  have HO := Lib.hid hO
  clear hO
  rcases A with _ | a
  all_goals
    go_enter Try.func5, Try.ntmps5
    go_wp2_with fail
    refine HREC.out.mono ?_
    rintro e w1 ⟨rfl, rfl⟩
    go_wp2_with fail
    refine (r5Head_any false _).mono ?_
    rintro e w2 ⟨rfl, rfl⟩
    go_wp2_with fail
    refine wp_loop_rounds 1 ?_
    rw [rounds_succ]
    go_wp2_with fail
    refine (r5Frag_nil _ _ _ _ _ _ _).mono ?_
    rintro e w3 ⟨rfl, rfl⟩
    go_wp2_with fail
    go_ret3
    exact ⟨_, [], rfl, by simpa using HO.out.oo, trivial, HO.out.below⟩
theorem rd_addr {w : World} {B : Nat} {A : Option Addr} {l : List UInt8} (h : Bs w B A l) (hl : l ≠ []) : ∃ bb off, A = some ⟨bb, off, none⟩ ∧ bb < B := by
  rcases h with h | ⟨b, off, hA, hb, _⟩
  · exact absurd (by simpa using h) hl
  · exact ⟨b, off, hA, hb⟩
theorem wRead_any (A : Option Addr) (cap : Nat) (log : Int) (l : List UInt8) (w : World) (hcap : l.length ≤ cap) (hbs : Bs w w.heap.size A l) : Calls Try.prog 4 #[.slice A l.length cap, .int .u32 log] w (ReadP w.heap.size w (readR l log)) := by
  by_cases h : l = []
  · subst h; exact wRead_nil A cap log w
  · obtain ⟨bb, off, rfl, hb⟩ := rd_addr hbs h
    exact wRead_some bb off cap log l w hcap hbs hb
theorem rRead_any (A : Option Addr) (cap : Nat) (log : Int) (l : List UInt8) (w : World) (hcap : l.length ≤ cap) (hbs : Bs w w.heap.size A l) : Calls Try.prog 5 #[.slice A l.length cap, .int .u32 log] w (ReadP w.heap.size w (readR l log)) := by
  by_cases h : l = []
  · subst h; exact rRead_nil A cap log w
  · obtain ⟨bb, off, rfl, hb⟩ := rd_addr hbs h
    exact rRead_some bb off cap log l w hcap hbs hb
/-- opened again: 0 with a writer, or why not -/
def reopE (l : List UInt8) (log : Int) : Int := if 1073741824 < l.length then 2 else if (readR l log).2.1 ≠ 0 ∨ (readR l log).2.2 ≠ l.length then 3 else 0
def ReopP (n : Nat) (re : Int) (w : World) (e : Ending) (w' : World) : Prop := Below w.heap.size w w' ∧
  ((re ≠ 0 ∧ e = .returned (.tuple #[.pointer none, .int .i64 re])) ∨
   (re = 0 ∧ ∃ q, e = .returned (.tuple #[.pointer (some ⟨q, 0, none⟩), .int .i64 0]) ∧ w'.cell? ⟨q, 2, none⟩ = some (.int .i64 (n : Nat))))
set_option maxHeartbeats 1000000 in
theorem wReopen_any (A : Option Addr) (cap : Nat) (log : Int) (rec : Bool) (l : List UInt8) (w : World) (hl : l.length ≤ 9223372036854775807) (hcap : l.length ≤ cap) (hbs : Bs w w.heap.size A l) :
    Calls Try.prog 6 #[.slice A l.length cap, .int .u32 log, .bool rec] w (ReopP l.length (reopE l log) w) := by
  have hR := wRead_any A cap log l w hcap hbs
  by_cases hbig : 1073741824 < l.length
  · have hr : reopE l log = 2 := by unfold reopE; rw [if_pos hbig]
    rw [hr]
    have hd : decide ((1073741824 : Int) < (l.length : Int)) = true := by simp; omega
    clear hR hr
    go_enter Try.func6, Try.ntmps6
    go_wp2
    go_ret2
    exact ⟨Below.refl _ _, .inl ⟨by decide, rfl⟩⟩
  have hd : decide ((1073741824 : Int) < (l.length : Int)) = false := by simp; omega
  have hr : reopE l log = if (readR l log).2.1 ≠ 0 ∨ (readR l log).2.2 ≠ l.length then 3 else 0 := by unfold reopE; rw [if_neg hbig]
  generalize reopE l log = re at *
  generalize readR l log = res at *
  obtain ⟨out, how, place⟩ := res
  dsimp only at hr hR
  have HR := Lib.hid hR
  have HRE := Lib.hid hr
  clear hR hr
  go_enter Try.func6, Try.ntmps6
  go_wp2_with fail
  refine HR.out.mono ?_
  rintro e w1 ⟨ov, vs, rfl, -, -, hb⟩
  have HB := Lib.hid hb
  have hw1 := hb.size
  clear hb HR
  by_cases hh : how = 0
  · subst hh
    by_cases hp : place = l.length
    · subst hp
      have hre : re = 0 := by rw [HRE.out]; simp
      subst hre
      go_wp2_with fail
      go_ret2
      exact ⟨HB.out.alloc hw1 _, .inr ⟨rfl, _, rfl, (Blk.new _ _ _).cell 2⟩⟩
    · have hp2 : (((place : Int)) != (l.length : Int)) = true := by rw [bne_iff_ne]; omega
      have hre : re = 3 := by rw [HRE.out]; rw [if_pos (.inr hp)]
      subst hre
      clear hp
      go_wp2_with fail
      go_ret2
      exact ⟨HB.out, .inl ⟨by decide, rfl⟩⟩
  · have hh2 : (how != 0) = true := by simpa using hh
    have hre : re = 3 := by rw [HRE.out]; rw [if_pos (.inl hh)]
    subst hre
    clear hh
    go_wp2_with fail
    go_ret2
    exact ⟨HB.out, .inl ⟨by decide, rfl⟩⟩
set_option maxHeartbeats 1000000 in
theorem r5Reopen_any (A : Option Addr) (cap : Nat) (log : Int) (rec : Bool) (l : List UInt8) (w : World) (hl : l.length ≤ 9223372036854775807) (hcap : l.length ≤ cap) (hbs : Bs w w.heap.size A l) :
    Calls Try.prog 7 #[.slice A l.length cap, .int .u32 log, .bool rec] w (ReopP l.length (reopE l log) w) := by
  have hR := rRead_any A cap log l w hcap hbs
  by_cases hbig : 1073741824 < l.length
  · have hr : reopE l log = 2 := by unfold reopE; rw [if_pos hbig]
    rw [hr]
    have hd : decide ((1073741824 : Int) < (l.length : Int)) = true := by simp; omega
    clear hR hr
    go_enter Try.func7, Try.ntmps7
    go_wp2
    go_ret2
    exact ⟨Below.refl _ _, .inl ⟨by decide, rfl⟩⟩
  have hd : decide ((1073741824 : Int) < (l.length : Int)) = false := by simp; omega
  have hr : reopE l log = if (readR l log).2.1 ≠ 0 ∨ (readR l log).2.2 ≠ l.length then 3 else 0 := by unfold reopE; rw [if_neg hbig]
  generalize reopE l log = re at *
  generalize readR l log = res at *
  obtain ⟨out, how, place⟩ := res
  dsimp only at hr hR
  have HR := Lib.hid hR
  have HRE := Lib.hid hr
  clear hR hr
  go_enter Try.func7, Try.ntmps7
  go_wp2_with fail
  refine HR.out.mono ?_
  rintro e w1 ⟨ov, vs, rfl, -, -, hb⟩
  have HB := Lib.hid hb
  have hw1 := hb.size
  clear hb HR
  by_cases hh : how = 0
  · subst hh
    by_cases hp : place = l.length
    · subst hp
      have hre : re = 0 := by rw [HRE.out]; simp
      subst hre
      go_wp2_with fail
      go_ret2
      exact ⟨HB.out.alloc hw1 _, .inr ⟨rfl, _, rfl, (Blk.new _ _ _).cell 2⟩⟩
    · have hp2 : (((place : Int)) != (l.length : Int)) = true := by rw [bne_iff_ne]; omega
      have hre : re = 3 := by rw [HRE.out]; rw [if_pos (.inr hp)]
      subst hre
      clear hp
      go_wp2_with fail
      go_ret2
      exact ⟨HB.out, .inl ⟨by decide, rfl⟩⟩
  · have hh2 : (how != 0) = true := by simpa using hh
    have hre : re = 3 := by rw [HRE.out]; rw [if_pos (.inl hh)]
    subst hre
    clear hh
    go_wp2_with fail
    go_ret2
    exact ⟨HB.out, .inl ⟨by decide, rfl⟩⟩
end Go.Proofs.Ytlcnachblcacjaa
