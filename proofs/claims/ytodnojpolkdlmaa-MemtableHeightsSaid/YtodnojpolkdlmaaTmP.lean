/-
  Add of an entry.
-/
import Derived.Test.YtodnojpolkdlmaaTmN
namespace Go.Proofs.Ytodnojpolkdlmaa
set_option linter.unusedSimpArgs false
set_option linter.unusedVariables false
open Go.RowKit Go.IntWalk
attribute [local go_sem ↓] Go.wp_at_zero Go.wp_at_succ

theorem split_nodes {how : Int} {l : List E} {N : List Nd} (hN : N.map (·.e) = l) (hs : SortE how l) (x : K) :
    ∃ P Q, N = P ++ Q ∧ P.map (·.e) = l.take (posE how l x) ∧ Q.map (·.e) = l.drop (posE how l x) ∧ (∀ n ∈ P, ordK how n.e.k x < 0) ∧ (∀ n ∈ Q, 0 ≤ ordK how n.e.k x) ∧
      (thereE how l x = false → ∀ q1 Q1, Q = q1 :: Q1 → q1.e.k ≠ x) ∧ (thereE how l x = true → ∃ q1 Q1, Q = q1 :: Q1 ∧ q1.e.k = x) := by
  have hP : (N.take (posE how l x)).map (·.e) = l.take (posE how l x) := by rw [List.map_take, hN]
  have hQ : (N.drop (posE how l x)).map (·.e) = l.drop (posE how l x) := by rw [List.map_drop, hN]
  have hh : l[posE how l x]? = ((l.drop (posE how l x)).head?) := by rw [List.head?_drop]
  refine ⟨N.take (posE how l x), N.drop (posE how l x), (List.take_append_drop _ _).symm, hP, hQ, fun n hn => ?_, fun n hn => ?_, fun ht q1 Q1 hq => ?_, fun ht => ?_⟩
  · exact posE_take how x l n.e (by rw [← hP]; exact List.mem_map.2 ⟨n, hn, rfl⟩)
  · exact posE_drop how x l hs n.e (by rw [← hQ]; exact List.mem_map.2 ⟨n, hn, rfl⟩)
  · unfold thereE at ht
    rw [hh, ← hQ, hq] at ht
    simp only [List.map_cons, List.head?_cons] at ht
    intro e
    rw [e, ordK_refl] at ht
    cases ht
  · unfold thereE at ht
    rw [hh, ← hQ] at ht
    generalize N.drop (posE how l x) = D at *
    rcases D with _ | ⟨q1, Q1⟩
    · cases ht
    · simp only [List.map_cons, List.head?_cons, beq_iff_eq] at ht
      exact ⟨q1, Q1, rfl, (ordK_eq how _ _).1 ht⟩
theorem blksOf_app (P Q : List Nd) : blksOf (P ++ Q) = blksOf P ++ blksOf Q := by unfold blksOf; rw [List.flatMap_append]
section
variable {w w' : World} {g : Nat} {how : Int} {hl : List UInt8} {S : TS} {F H : List Nat} {hb : Nat} {hA : Option Addr} {hc : Nat} {tv hu hs hk hval : Value} {N : List Nd}
/-- an entry more -/
theorem TabP.putE (h : TabP w g how hl S F H hb hA hc tv hu hs hk hval N) (hH : ∀ k ∈ H, k < w.heap.size) {P Q : List Nd} {m : Nd} {l' : List E} (hN : N = P ++ Q) (hl' : P.map (·.e) ++ m.e :: Q.map (·.e) = l') (hm1 : w.heap.size ≤ m.nb) (hm2 : w.heap.size ≤ m.xb) (hm3 : m.nb ≠ m.xb)
    (ht : Tbl w' g hb how (.slice hA hl.length hc) hu hs hk hval tv (.int .i64 S.size) (.int .u64 S.first) (.int .u64 S.last) (P ++ m :: Q)) (hcg : Chg w w' (skF g hb (P ++ Q))) :
    AddP w g how hl { S with l := l' } F H w' := by
  have hlt := h.lt
  have hsk : ∀ k, skF g hb (P ++ Q) k → k ∈ F := fun k hk => by
    rw [h.fp, hN]
    rcases hk with rfl | rfl | hk
    · simp
    · simp
    · exact List.mem_append_left _ (List.mem_cons_of_mem _ (List.mem_cons_of_mem _ hk))
  have hcF : Chg w w' (fun k => k ∈ F) := hcg.more fun k _ hk => hsk k hk
  have hbl : ∀ k, k ∈ blksOf (P ++ m :: Q) → k ∈ blksOf (P ++ Q) ∨ k = m.nb ∨ k = m.xb := fun k hk => by
    rw [blksOf_app] at hk ⊢
    rcases List.mem_append.1 hk with hk | hk
    · exact .inl (List.mem_append_left _ hk)
    · have e : blksOf (m :: Q) = m.nb :: m.xb :: blksOf Q := rfl
      rw [e] at hk
      rcases List.mem_cons.1 hk with hk | hk
      · exact .inr (.inl hk)
      rcases List.mem_cons.1 hk with hk | hk
      · exact .inr (.inr hk)
      · exact .inl (List.mem_append_right _ hk)
  have hmem : ∀ k ∈ (g :: hb :: blksOf (P ++ m :: Q)) ++ tv.ownBlock.toList, k ∈ F ∨ w.heap.size ≤ k := by
    intro k hk
    rcases List.mem_append.1 hk with hk | hk
    · rcases List.mem_cons.1 hk with rfl | hk
      · exact .inl (hsk k (.inl rfl))
      rcases List.mem_cons.1 hk with rfl | hk
      · exact .inl (hsk k (.inr (.inl rfl)))
      rcases hbl k hk with hk | rfl | rfl
      · exact .inl (hsk k (.inr (.inr hk)))
      · exact .inr hm1
      · exact .inr hm2
    · exact .inl (h.tvF k (by simpa using hk)).1
  refine ⟨(g :: hb :: blksOf (P ++ m :: Q)) ++ tv.ownBlock.toList, ⟨hb, hA, hc, tv, hu, hs, hk, hval, P ++ m :: Q, ?_, rfl, ?_, ht, ?_, h.bsc hcF, h.hh, ?_⟩, hcF, hmem⟩
  · show (P ++ m :: Q).map (·.e) = l'
    rw [← hl', List.map_append, List.map_cons]
  · have hnd := h.nd
    rw [h.fp, hN] at hnd
    have hperm : ((g :: hb :: blksOf (P ++ m :: Q)) ++ tv.ownBlock.toList).Perm (m.nb :: m.xb :: ((g :: hb :: blksOf (P ++ Q)) ++ tv.ownBlock.toList)) := by
      rw [blksOf_app, blksOf_app]
      have e : blksOf (m :: Q) = [m.nb, m.xb] ++ blksOf Q := rfl
      rw [e]
      have h1 : (g :: hb :: (blksOf P ++ ([m.nb, m.xb] ++ blksOf Q)) ++ tv.ownBlock.toList) = ((g :: hb :: blksOf P) ++ [m.nb, m.xb]) ++ (blksOf Q ++ tv.ownBlock.toList) := by simp
      have h2 : (m.nb :: m.xb :: ((g :: hb :: (blksOf P ++ blksOf Q)) ++ tv.ownBlock.toList)) = ([m.nb, m.xb] ++ (g :: hb :: blksOf P)) ++ (blksOf Q ++ tv.ownBlock.toList) := by simp
      rw [h1, h2]
      exact List.Perm.append_right _ List.perm_append_comm
    rw [hperm.nodup_iff]
    have hlt' : ∀ k ∈ (g :: hb :: blksOf (P ++ Q)) ++ tv.ownBlock.toList, k < w.heap.size := fun k hk => hlt k (by rw [h.fp, hN]; exact hk)
    refine List.nodup_cons.2 ⟨fun hk => ?_, List.nodup_cons.2 ⟨fun hk => ?_, hnd⟩⟩
    · rcases List.mem_cons.1 hk with e | hk
      · exact hm3 e
      · have := hlt' _ hk; omega
    · have := hlt' _ hk; omega
  · exact h.own.of_block fun k hk => hcg.block k (hlt k (h.tvF k hk).1) fun hf => by
      have h4 := h.tvF k hk
      rcases hf with e | e | hk2
      · exact h4.2.1 e
      · exact h4.2.2.1 e
      · exact h4.2.2.2 (by rw [hN]; exact hk2)
  · intro k hk hf
    rcases hmem k hf with h1 | h1
    · exact h.dj k hk h1
    · have := hH k hk; omega
end
set_option maxHeartbeats 4000000 in
set_option maxRecDepth 100000 in
theorem mAdd_put_there {w : World} {g : Nat} {how : Int} {hl : List UInt8} {S : TS} {F H : List Nat} (ht : Tab w g how hl S F H) (hs : SortE how S.l) (seq : Int) (f : Int) (key v : ByteArray) (h : seq ≤ 72057594037927935) (hc : chkR ⟨f, 1, key, v⟩ = 0) (hf : S.n < 8192) (hth : thereE how S.l ⟨key, seq, 1⟩ = true) :
    Calls Try.prog 9 #[.pointer (some ⟨g, 0, none⟩), .int .u64 seq, .agg #[.int .u32 f, .int .i64 1, .string key, .string v]] w fun e w' => e = .returned (.int .i64 7) ∧ Below w.heap.size w w' := by
  have HS := Lib.hid hs
  have HTH := Lib.hid hth
  clear hs hth
  have hd : decide (72057594037927935 < seq) = false := by simpa using h
  have HC := fun w => bChk_any ⟨f, 1, key, v⟩ w
  dsimp only at HC ⊢
  rw [hc] at HC
  have HCC := Lib.hid HC
  have HT := Lib.hid ht
  have hd2 : decide ((8192 : Int) ≤ (S.n : Int)) = false := by simp; omega
  have hn : S.n ≤ 1000000 := by omega
  have hblk : Blk (w.alloc (.cells #[.int .u32 f, .int .i64 1, .string key, .string v] 33)) w.heap.size 33 #[.int .u32 f, .int .i64 1, .string key, .string v] := Blk.new _ _ _
  have HBK := Lib.hid hblk
  clear h hc HC ht hblk
  go_enter Try.func9, Try.ntmps9
  go_wp2_with fail
  refine (HCC.out _).mono ?_
  rintro e w1 ⟨rfl, hb1⟩
  have HB1 := Lib.hid (((Below.refl _ w).alloc (Nat.le_refl _) _).trans (hb1.mono (by simp)))
  have HK1 := Lib.hid (HBK.out.below hb1 (by simp))
  clear hb1 HBK
  go_wp2_with fail
  refine (mLen_any (HT.out.below HB1.out) hn).mono ?_
  rintro e w2 ⟨rfl, nq, hnq⟩
  have hb2 : Below w1.heap.size w1 w2 := by rw [hnq]; exact below_drewN (Below.refl _ _) nq
  have HB2 := Lib.hid (HB1.out.trans (hb2.mono HB1.out.size))
  have HK2 := Lib.hid (HK1.out.below hb2 HK1.out.lt)
  have HT2 := Lib.hid (HT.out.below HB2.out)
  clear hb2 hnq nq HB1 HK1 HCC
  have k0 : w2.cell? ⟨w.heap.size, 0, none⟩ = some (.int .u32 f) := HK2.out.cell 0
  have k1 : w2.cell? ⟨w.heap.size, 1, none⟩ = some (.int .i64 1) := HK2.out.cell 1
  have k2 : w2.cell? ⟨w.heap.size, 2, none⟩ = some (.string key) := HK2.out.cell 2
  have k3 : w2.cell? ⟨w.heap.size, 3, none⟩ = some (.string v) := HK2.out.cell 3
  have f3 := HK2.out.frozen 3
  obtain ⟨hb, hA, hc, tv, hu, hs, hk, hval, N, hp2⟩ := HT.out.parts
  obtain ⟨P, Q, rfl, -, -, hP, hQ, -, hth⟩ := split_nodes hp2.nl HS.out ⟨key, seq, 1⟩
  obtain ⟨q1, Q1, rfl, hq1⟩ := hth HTH.out
  have HPT := Lib.hid (fun w' (h' : Below w.heap.size w w') => mPut_there w' g hb how _ hu hs hk hval tv _ _ _ P Q1 q1 ⟨⟨key, seq, 1⟩, v⟩ (hp2.below h').tbl hP hQ hq1)
  dsimp only at HPT
  have HB3 : Hid (Below w.heap.size w w2) := HB2.out
  clear hp2 hP hQ hth hq1
  go_wp2_with fail
  refine (HPT.out _ HB3.out).mono ?_
  rintro e w4 ⟨rfl, hb4⟩
  have HB4 := Lib.hid (HB3.out.trans (hb4.mono HB3.out.size))
  clear hb4
  go_wp2_with fail
  go_ret
  exact ⟨rfl, HB4.out⟩
set_option maxHeartbeats 4000000 in
set_option maxRecDepth 100000 in
theorem mAdd_del_there {w : World} {g : Nat} {how : Int} {hl : List UInt8} {S : TS} {F H : List Nat} (ht : Tab w g how hl S F H) (hs : SortE how S.l) (seq : Int) (f : Int) (key v : ByteArray) (h : seq ≤ 72057594037927935) (hc : chkR ⟨f, 0, key, v⟩ = 0) (hf : S.n < 8192) (hth : thereE how S.l ⟨key, seq, 0⟩ = true) :
    Calls Try.prog 9 #[.pointer (some ⟨g, 0, none⟩), .int .u64 seq, .agg #[.int .u32 f, .int .i64 0, .string key, .string v]] w fun e w' => e = .returned (.int .i64 7) ∧ Below w.heap.size w w' := by
  have HS := Lib.hid hs
  have HTH := Lib.hid hth
  clear hs hth
  have hd : decide (72057594037927935 < seq) = false := by simpa using h
  have HC := fun w => bChk_any ⟨f, 0, key, v⟩ w
  dsimp only at HC ⊢
  rw [hc] at HC
  have HCC := Lib.hid HC
  have HT := Lib.hid ht
  have hd2 : decide ((8192 : Int) ≤ (S.n : Int)) = false := by simp; omega
  have hn : S.n ≤ 1000000 := by omega
  have hblk : Blk (w.alloc (.cells #[.int .u32 f, .int .i64 0, .string key, .string v] 33)) w.heap.size 33 #[.int .u32 f, .int .i64 0, .string key, .string v] := Blk.new _ _ _
  have HBK := Lib.hid hblk
  clear h hc HC ht hblk
  go_enter Try.func9, Try.ntmps9
  go_wp2_with fail
  refine (HCC.out _).mono ?_
  rintro e w1 ⟨rfl, hb1⟩
  have HB1 := Lib.hid (((Below.refl _ w).alloc (Nat.le_refl _) _).trans (hb1.mono (by simp)))
  have HK1 := Lib.hid (HBK.out.below hb1 (by simp))
  clear hb1 HBK
  go_wp2_with fail
  refine (mLen_any (HT.out.below HB1.out) hn).mono ?_
  rintro e w2 ⟨rfl, nq, hnq⟩
  have hb2 : Below w1.heap.size w1 w2 := by rw [hnq]; exact below_drewN (Below.refl _ _) nq
  have HB2 := Lib.hid (HB1.out.trans (hb2.mono HB1.out.size))
  have HK2 := Lib.hid (HK1.out.below hb2 HK1.out.lt)
  have HT2 := Lib.hid (HT.out.below HB2.out)
  clear hb2 hnq nq HB1 HK1 HCC
  have k0 : w2.cell? ⟨w.heap.size, 0, none⟩ = some (.int .u32 f) := HK2.out.cell 0
  have k1 : w2.cell? ⟨w.heap.size, 1, none⟩ = some (.int .i64 0) := HK2.out.cell 1
  have k2 : w2.cell? ⟨w.heap.size, 2, none⟩ = some (.string key) := HK2.out.cell 2
  have k3 : w2.cell? ⟨w.heap.size, 3, none⟩ = some (.string v) := HK2.out.cell 3
  have f3 := HK2.out.frozen 3
  obtain ⟨hb, hA, hc, tv, hu, hs, hk, hval, N, hp2⟩ := HT.out.parts
  obtain ⟨P, Q, rfl, -, -, hP, hQ, -, hth⟩ := split_nodes hp2.nl HS.out ⟨key, seq, 0⟩
  obtain ⟨q1, Q1, rfl, hq1⟩ := hth HTH.out
  have HPT := Lib.hid (fun w' (h' : Below w.heap.size w w') => mPut_there w' g hb how _ hu hs hk hval tv _ _ _ P Q1 q1 ⟨⟨key, seq, 0⟩, ⟨#[]⟩⟩ (hp2.below h').tbl hP hQ hq1)
  dsimp only at HPT
  have HB3 : Hid (Below w.heap.size w (w2.setCell ⟨w.heap.size, 3, none⟩ (.string ⟨#[]⟩))) := HB2.out.setCell (p := ⟨w.heap.size, 3, none⟩) (Nat.le_refl _) _
  clear hp2 hP hQ hth hq1
  go_wp2_with fail
  refine (HPT.out _ HB3.out).mono ?_
  rintro e w4 ⟨rfl, hb4⟩
  have HB4 := Lib.hid (HB3.out.trans (hb4.mono HB3.out.size))
  clear hb4
  go_wp2_with fail
  go_ret
  exact ⟨rfl, HB4.out⟩
end Go.Proofs.Ytodnojpolkdlmaa
