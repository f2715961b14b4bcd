/-
  The law CodecKeys, walked.
-/
import Derived.Test.YtbgmbnmdmjbciaaCodJ
import Derived.Test.YtbgmbnmdmjbciaaCodH
import Derived.Deep.RegionHeld3
import Derived.Deep.DrawnRows
namespace Go.Proofs.Ytbgmbnmdmjbciaa
open Go.RowKit
set_option linter.unusedSimpArgs false
attribute [local go_sem ↓] Go.wp_at_zero Go.wp_at_succ

set_option maxHeartbeats 4000000 in
theorem codecKeys_any (u : ByteArray) (s k : Int) (A : Option Addr) (cap : Nat) (l : List UInt8) (w : World) (h0 : 0 ≤ s) (hl : l.length ≤ cap) (hcap : cap ≤ 140737488351232) (hr : Bs w w.heap.size A l) :
    Calls Try.prog 4 #[.agg #[.string u, .int .u64 s, .int .i64 k], .slice A l.length cap] w fun e w' => e = .returned (.bool true) ∧ Below w.heap.size w w' := by
  obtain ⟨i0, hi, hz0, hz1, hz2⟩ : ∃ i : TypeInfo, Try.prog.info? 5 = some i ∧ i.zero = some (.int .u8 0) ∧ i.size = 1 ∧ i.bytes = 1 := ⟨_, Try.type5, rfl, rfl, rfl⟩
  have hm8 : l.length ≤ maxLen := by unfold maxLen; omega
  have hE1 := fun w => cEncode_any ⟨u, s, k⟩ w h0
  have hE2 := fun w => rEncode_any ⟨u, s, k⟩ w h0
  have hDE := dec_enc ⟨u, s, k⟩ h0
  have hDL : (encL ⟨u, s, k⟩).length ≤ 140737488351240 ∨ chkK ⟨u, s, k⟩ ≠ 0 := by
    by_cases hc : chkK ⟨u, s, k⟩ = 0
    · have := chk_bounds hc h0
      have := encL_len ⟨u, s, k⟩
      dsimp only at *; omega
    · exact .inr hc
  have hC1 := fun w => cCheck_any u s k w
  have hC2 := fun w => rCheck_any u s k w
  generalize chkK ⟨u, s, k⟩ = ce at *
  generalize encL ⟨u, s, k⟩ = el at *
  have HDE := Lib.hid hDE; clear hDE
  have hD1 := fun A cap w (h1 : l.length ≤ cap) (hb : Bs w w.heap.size A l) => cDecode_any A cap l w h1 (by omega) hb
  have hD2 := fun A cap w (h1 : l.length ≤ cap) (hb : Bs w w.heap.size A l) => rDecode_any A cap l w h1 (by omega) hb
  generalize decR l = dr at hD1 hD2
  generalize decE l = de at hD1 hD2
  obtain ⟨du, dq, dk⟩ := dr
  simp only [keyV] at hD1 hD2
  go_enter Try.func4, Try.ntmps4
  go_wp2_with fail
  refine (hE1 _).mono ?_
  rintro e w1 ⟨x, rfl, hb1, hx⟩
  obtain ⟨A1, c1, rfl, hc1, _, hx1⟩ := hx.rd
  have hkb : Blk w1 w.heap.size 30 #[.string u, .int .u64 s, .int .i64 k] := (hb1.block w.heap.size (by simp)).trans (Blk.new w _ _)
  have hbw1 : Below w.heap.size w w1 := ((Below.refl _ _).alloc (Nat.le_refl _) _).trans (hb1.mono (by simp))
  have hz1' := hb1.size
  simp only [World.size_alloc] at hz1'
  clear hb1 hx
  have k0 := hkb.cell 0
  have k1 := hkb.cell 1
  have k2 := hkb.cell 2
  simp only [List.getElem?_toArray, List.getElem?_cons_zero, List.getElem?_cons_succ] at k0 k1 k2
  go_wp2_with fail
  refine (hE2 _).mono ?_
  rintro e w2 ⟨y, rfl, hb2, hy⟩
  obtain ⟨A2, c2, rfl, hc2, _, hy1⟩ := hy.rd
  have hbw2 : Below w.heap.size w w2 := hbw1.trans (hb2.mono (by omega))
  have hz2' := hb2.size
  have hx2 := hx1.next hb2
  have hkb2 := hkb.below hb2 (by omega)
  have hr2 := hr.keep hbw2
  clear k0 k1 k2 hkb hbw1 hb2 hy hx1 hE1 hE2
  go_wp2_with (at_builtin; go_loud (refine wpList_append _ rfl (.tmp 26) (.tmp 27) 22 22 rfl w2.heap.size 5 i0 (.int .u8 0) 1 1 Try.underlying22 hi hz0 hz1 hz2 rfl (by decide) _ 0 [] rfl ((Blk.new w2 5 #[]).own (Nat.le_refl _) (Nat.le_refl _) (by decide) rfl rfl) _ l.length (l.map byteV) rfl (Src.slice _ Try.underlying22 (by simp) (hr2.keep (((Below.refl _ _).alloc hbw2.size _)))) (by simp [byteV, Value.oneCell']) (by omega) (by omega) (by simp) ?_; intro v3 w3 ho hg _; simp only [Nat.zero_add, List.nil_append] at ho; have hb3 := below_append ((Below.refl _ w2).alloc (Nat.le_refl _) (.cells #[] 5)) ((Blk.new w2 5 #[]).own (base := w2.heap.size) (n := 0) (cap := 0) (size := 1) (xs := []) (Nat.le_refl _) (Nat.le_refl _) (by decide) rfl rfl) (Nat.le_refl _) (by simp) hg; clear hg; obtain ⟨A3, c3, rfl, hc3, _, hx3⟩ := ho.rd))
  refine (hD1 A3 c3 _ hc3 hx3).mono ?_
  rintro e w4 ⟨rfl, hb4⟩
  have hb4 : Below w2.heap.size w2 w4 := hb3.trans (hb4.mono hb3.size)
  go_wp2_with fail
  have hz4 := hb4.size
  have hB4 : Below w2.heap.size w2 (w4.alloc (.cells #[.string du, .int .u64 dq, .int .i64 dk] 30)) := hb4.alloc hz4 _
  refine (hD2 A cap _ hl ((hr2.keep (hB4.mono hbw2.size)).more (by simp; omega))).mono ?_
  rintro e w5 ⟨rfl, hb5⟩
  have hlb : Blk w5 w4.heap.size 30 #[.string du, .int .u64 dq, .int .i64 dk] := (hb5.block w4.heap.size (by simp)).trans (Blk.new w4 _ _)
  have hz5 := hb5.size
  simp only [World.size_alloc] at hz5
  have hB5 : Below w2.heap.size w2 (w5.alloc (.cells #[.string du, .int .u64 dq, .int .i64 dk] 30)) := (hB4.trans (hb5.mono (by simp; omega))).alloc (by omega) _
  have hlb6 := hlb.alloc (.cells #[.string du, .int .u64 dq, .int .i64 dk] 30)
  have hmb6 := Blk.new w5 30 #[.string du, .int .u64 dq, .int .i64 dk]
  have hz6 : (w5.alloc (.cells #[.string du, .int .u64 dq, .int .i64 dk] 30)).heap.size = w5.heap.size + 1 := by simp
  clear hb5 hB4 hb4 hb3 ho hx3 hlb hD1 hD2
  go_wp2_with fail
  generalize w5.alloc (.cells #[.string du, .int .u64 dq, .int .i64 dk] 30) = w6 at *
  have hS : ∀ w', Below w6.heap.size w6 w' →
      (w'.cell? ⟨w.heap.size, 0, none⟩ = some (.string u) ∧ w'.cell? ⟨w.heap.size, 1, none⟩ = some (.int .u64 s) ∧ w'.cell? ⟨w.heap.size, 2, none⟩ = some (.int .i64 k)) ∧
      (w'.cell? ⟨w4.heap.size, 0, none⟩ = some (.string du) ∧ w'.cell? ⟨w4.heap.size, 1, none⟩ = some (.int .u64 dq) ∧ w'.cell? ⟨w4.heap.size, 2, none⟩ = some (.int .i64 dk)) ∧
      (w'.cell? ⟨w5.heap.size, 0, none⟩ = some (.string du) ∧ w'.cell? ⟨w5.heap.size, 1, none⟩ = some (.int .u64 dq) ∧ w'.cell? ⟨w5.heap.size, 2, none⟩ = some (.int .i64 dk)) ∧
      Sem.run Try.prog (convert 22 9 (.slice A1 el.length c1)) w' = .ok (.string ⟨el.toArray⟩) w' ∧
      Sem.run Try.prog (convert 22 9 (.slice A2 el.length c2)) w' = .ok (.string ⟨el.toArray⟩) w' := by
    intro w' h
    have b1 := hkb2.below (hB5.trans (h.mono hB5.size)) (by omega)
    have b2 := hlb6.below h (by omega)
    have b3 := hmb6.below h (by omega)
    refine ⟨⟨b1.cell 0, b1.cell 1, b1.cell 2⟩, ⟨b2.cell 0, b2.cell 1, b2.cell 2⟩, ⟨b3.cell 0, b3.cell 1, b3.cell 2⟩, ?_, ?_⟩
    · exact run_toString w' _ _ _ A1 c1 _ el Try.underlying22 Try.underlying5 Try.underlying9 (hx2.keep (hB5.trans (h.mono hB5.size)))
    · exact run_toString w' _ _ _ A2 c2 _ el Try.underlying22 Try.underlying5 Try.underlying9 (hy1.keep (hB5.trans (h.mono hB5.size)))
  have HS := Lib.hid hS; clear hS
  have HB5 := Lib.hid hB5; clear hB5
  have HW2 := Lib.hid hbw2; clear hbw2
  have h00 := Below.refl w6.heap.size w6
  refine wp_region_held_drew (S := fun w' => Below w6.heap.size w6 w') (by kernel_rfl) h00.drew (fun hHeld => ?_)
  clear h00
  refine wpAnyH_take (i := 0) (v := ?_) rfl (by kernel_rfl) (by kernel_rfl) (by kernel_rfl) (fun _ _ _ h => h) (Or.inl ⟨by rfl, ?_⟩) (by assumption) ?_
  rotate_left
  · (intro w hSw; obtain ⟨⟨k0, k1, k2⟩, ⟨l0, l1, l2⟩, ⟨m0, m1, m2⟩, ex, ey⟩ := HS.out w hSw; go_simp; try (with_reducible rfl))
  try simp only [Act.put, List.getElem_toArray, List.getElem_cons_succ, List.getElem_cons_zero, List.setIfInBounds_toArray, List.set_cons_zero, List.set_cons_succ]
  refine wpAnyH_take (i := 1) (v := ?_) rfl (by kernel_rfl) (by kernel_rfl) (by kernel_rfl) (fun _ _ _ h => h) (Or.inl ⟨by rfl, ?_⟩) (by assumption) ?_
  rotate_left
  · (intro w hSw; obtain ⟨⟨k0, k1, k2⟩, ⟨l0, l1, l2⟩, ⟨m0, m1, m2⟩, ex, ey⟩ := HS.out w hSw; go_simp; try (with_reducible rfl))
  try simp only [Act.put, List.getElem_toArray, List.getElem_cons_succ, List.getElem_cons_zero, List.setIfInBounds_toArray, List.set_cons_zero, List.set_cons_succ]
  refine wpAnyH_take (i := 2) (v := ?_) rfl (by kernel_rfl) (by kernel_rfl) (by kernel_rfl) (fun _ _ _ h => h) (Or.inl ⟨by rfl, ?_⟩) (by assumption) ?_
  rotate_left
  · (intro w hSw; obtain ⟨⟨k0, k1, k2⟩, ⟨l0, l1, l2⟩, ⟨m0, m1, m2⟩, ex, ey⟩ := HS.out w hSw; go_simp; try (with_reducible rfl))
  try simp only [Act.put, List.getElem_toArray, List.getElem_cons_succ, List.getElem_cons_zero, List.setIfInBounds_toArray, List.set_cons_zero, List.set_cons_succ]
  refine wpAnyH_take (i := 3) (v := ?_) rfl (by kernel_rfl) (by kernel_rfl) (by kernel_rfl) (fun _ _ _ h => h) (Or.inl ⟨by rfl, ?_⟩) (by assumption) ?_
  rotate_left
  · (intro w hSw; obtain ⟨⟨k0, k1, k2⟩, ⟨l0, l1, l2⟩, ⟨m0, m1, m2⟩, ex, ey⟩ := HS.out w hSw; go_simp; try (with_reducible rfl))
  try simp only [Act.put, List.getElem_toArray, List.getElem_cons_succ, List.getElem_cons_zero, List.setIfInBounds_toArray, List.set_cons_zero, List.set_cons_succ]
  refine wpAnyH_take (i := 4) (v := ?_) rfl (by kernel_rfl) (by kernel_rfl) (by kernel_rfl) (fun _ _ _ h => h) (Or.inl ⟨by rfl, ?_⟩) (by assumption) ?_
  rotate_left
  · (intro w hSw; obtain ⟨⟨k0, k1, k2⟩, ⟨l0, l1, l2⟩, ⟨m0, m1, m2⟩, ex, ey⟩ := HS.out w hSw; go_simp; try (with_reducible rfl))
  try simp only [Act.put, List.getElem_toArray, List.getElem_cons_succ, List.getElem_cons_zero, List.setIfInBounds_toArray, List.set_cons_zero, List.set_cons_succ]
  refine wpAnyH_take (i := 5) (v := ?_) rfl (by kernel_rfl) (by kernel_rfl) (by kernel_rfl) (fun _ _ _ h => h) (Or.inl ⟨by rfl, ?_⟩) (by assumption) ?_
  rotate_left
  · (intro w hSw; obtain ⟨⟨k0, k1, k2⟩, ⟨l0, l1, l2⟩, ⟨m0, m1, m2⟩, ex, ey⟩ := HS.out w hSw; go_simp; try (with_reducible rfl))
  try simp only [Act.put, List.getElem_toArray, List.getElem_cons_succ, List.getElem_cons_zero, List.setIfInBounds_toArray, List.set_cons_zero, List.set_cons_succ]
  refine wpAnyH_take (i := 6) (v := ?_) rfl (by kernel_rfl) (by kernel_rfl) (by kernel_rfl) (fun _ _ _ h => h) (Or.inl ⟨by rfl, ?_⟩) (by assumption) ?_
  rotate_left
  · (intro w hSw; obtain ⟨⟨k0, k1, k2⟩, ⟨l0, l1, l2⟩, ⟨m0, m1, m2⟩, ex, ey⟩ := HS.out w hSw; go_simp; try (with_reducible rfl))
  try simp only [Act.put, List.getElem_toArray, List.getElem_cons_succ, List.getElem_cons_zero, List.setIfInBounds_toArray, List.set_cons_zero, List.set_cons_succ]
  refine wpAnyH_take (i := 7) (v := ?_) rfl (by kernel_rfl) (by kernel_rfl) (by kernel_rfl) (fun _ _ _ h => h) (Or.inl ⟨by rfl, ?_⟩) (by assumption) ?_
  rotate_left
  · (intro w hSw; obtain ⟨⟨k0, k1, k2⟩, ⟨l0, l1, l2⟩, ⟨m0, m1, m2⟩, ex, ey⟩ := HS.out w hSw; go_simp; try (with_reducible rfl))
  try simp only [Act.put, List.getElem_toArray, List.getElem_cons_succ, List.getElem_cons_zero, List.setIfInBounds_toArray, List.set_cons_zero, List.set_cons_succ]
  refine wpAnyH_take (i := 8) (v := ?_) rfl (by kernel_rfl) (by kernel_rfl) (by kernel_rfl) (fun _ _ _ h => h) (Or.inl ⟨by rfl, ?_⟩) (by assumption) ?_
  rotate_left
  · (intro w hSw; obtain ⟨⟨k0, k1, k2⟩, ⟨l0, l1, l2⟩, ⟨m0, m1, m2⟩, ex, ey⟩ := HS.out w hSw; go_simp; try (with_reducible rfl))
  try simp only [Act.put, List.getElem_toArray, List.getElem_cons_succ, List.getElem_cons_zero, List.setIfInBounds_toArray, List.set_cons_zero, List.set_cons_succ]
  refine wpAnyH_take (i := 9) (v := ?_) rfl (by kernel_rfl) (by kernel_rfl) (by kernel_rfl) (fun _ _ _ h => h) (Or.inl ⟨by rfl, ?_⟩) (by assumption) ?_
  rotate_left
  · (intro w hSw; obtain ⟨⟨k0, k1, k2⟩, ⟨l0, l1, l2⟩, ⟨m0, m1, m2⟩, ex, ey⟩ := HS.out w hSw; go_simp; try (with_reducible rfl))
  try simp only [Act.put, List.getElem_toArray, List.getElem_cons_succ, List.getElem_cons_zero, List.setIfInBounds_toArray, List.set_cons_zero, List.set_cons_succ]
  refine wpAnyH_take (i := 10) (v := ?_) rfl (by kernel_rfl) (by kernel_rfl) (by kernel_rfl) (fun _ _ _ h => h) (Or.inl ⟨by rfl, ?_⟩) (by assumption) ?_
  rotate_left
  · (intro w hSw; obtain ⟨⟨k0, k1, k2⟩, ⟨l0, l1, l2⟩, ⟨m0, m1, m2⟩, ex, ey⟩ := HS.out w hSw; go_simp; try (with_reducible rfl))
  try simp only [Act.put, List.getElem_toArray, List.getElem_cons_succ, List.getElem_cons_zero, List.setIfInBounds_toArray, List.set_cons_zero, List.set_cons_succ]
  refine wpAnyH_take (i := 11) (v := ?_) rfl (by kernel_rfl) (by kernel_rfl) (by kernel_rfl) (fun _ _ _ h => h) (Or.inl ⟨by rfl, ?_⟩) (by assumption) ?_
  rotate_left
  · (intro w hSw; obtain ⟨⟨k0, k1, k2⟩, ⟨l0, l1, l2⟩, ⟨m0, m1, m2⟩, ex, ey⟩ := HS.out w hSw; go_simp; try (with_reducible rfl))
  try simp only [Act.put, List.getElem_toArray, List.getElem_cons_succ, List.getElem_cons_zero, List.setIfInBounds_toArray, List.set_cons_zero, List.set_cons_succ]
  refine wpAnyH_take (i := 12) (v := ?_) rfl (by kernel_rfl) (by kernel_rfl) (by kernel_rfl) (fun _ _ _ h => h) (Or.inl ⟨by rfl, ?_⟩) (by assumption) ?_
  rotate_left
  · (intro w hSw; obtain ⟨⟨k0, k1, k2⟩, ⟨l0, l1, l2⟩, ⟨m0, m1, m2⟩, ex, ey⟩ := HS.out w hSw; go_simp; try (with_reducible rfl))
  try simp only [Act.put, List.getElem_toArray, List.getElem_cons_succ, List.getElem_cons_zero, List.setIfInBounds_toArray, List.set_cons_zero, List.set_cons_succ]
  refine wpAnyH_take (i := 13) (v := ?_) rfl (by kernel_rfl) (by kernel_rfl) (by kernel_rfl) (fun _ _ _ h => h) (Or.inl ⟨by rfl, ?_⟩) (by assumption) ?_
  rotate_left
  · (intro w hSw; obtain ⟨⟨k0, k1, k2⟩, ⟨l0, l1, l2⟩, ⟨m0, m1, m2⟩, ex, ey⟩ := HS.out w hSw; go_simp; try (with_reducible rfl))
  try simp only [Act.put, List.getElem_toArray, List.getElem_cons_succ, List.getElem_cons_zero, List.setIfInBounds_toArray, List.set_cons_zero, List.set_cons_succ]
  refine wpAnyH_take (i := 14) (v := ?_) rfl (by kernel_rfl) (by kernel_rfl) (by kernel_rfl) (fun _ _ _ h => h) (Or.inl ⟨by rfl, ?_⟩) (by assumption) ?_
  rotate_left
  · (intro w hSw; obtain ⟨⟨k0, k1, k2⟩, ⟨l0, l1, l2⟩, ⟨m0, m1, m2⟩, ex, ey⟩ := HS.out w hSw; go_simp; try (with_reducible rfl))
  try simp only [Act.put, List.getElem_toArray, List.getElem_cons_succ, List.getElem_cons_zero, List.setIfInBounds_toArray, List.set_cons_zero, List.set_cons_succ]
  refine wpAnyH_take (i := 15) (v := ?_) rfl (by kernel_rfl) (by kernel_rfl) (by kernel_rfl) (fun _ _ _ h => h) (Or.inl ⟨by rfl, ?_⟩) (by assumption) ?_
  rotate_left
  · (intro w hSw; obtain ⟨⟨k0, k1, k2⟩, ⟨l0, l1, l2⟩, ⟨m0, m1, m2⟩, ex, ey⟩ := HS.out w hSw; go_simp; try (with_reducible rfl))
  try simp only [Act.put, List.getElem_toArray, List.getElem_cons_succ, List.getElem_cons_zero, List.setIfInBounds_toArray, List.set_cons_zero, List.set_cons_succ]
  refine wpAnyH_take (i := 16) (v := ?_) rfl (by kernel_rfl) (by kernel_rfl) (by kernel_rfl) (fun _ _ _ h => h) (Or.inl ⟨by rfl, ?_⟩) (by assumption) ?_
  rotate_left
  · (intro w hSw; obtain ⟨⟨k0, k1, k2⟩, ⟨l0, l1, l2⟩, ⟨m0, m1, m2⟩, ex, ey⟩ := HS.out w hSw; go_simp; try (with_reducible rfl))
  try simp only [Act.put, List.getElem_toArray, List.getElem_cons_succ, List.getElem_cons_zero, List.setIfInBounds_toArray, List.set_cons_zero, List.set_cons_succ]
  refine wpAnyH_take (i := 17) (v := ?_) rfl (by kernel_rfl) (by kernel_rfl) (by kernel_rfl) (fun _ _ _ h => h) (Or.inl ⟨by rfl, ?_⟩) (by assumption) ?_
  rotate_left
  · (intro w hSw; obtain ⟨⟨k0, k1, k2⟩, ⟨l0, l1, l2⟩, ⟨m0, m1, m2⟩, ex, ey⟩ := HS.out w hSw; go_simp; try (with_reducible rfl))
  try simp only [Act.put, List.getElem_toArray, List.getElem_cons_succ, List.getElem_cons_zero, List.setIfInBounds_toArray, List.set_cons_zero, List.set_cons_succ]
  refine wpAnyH_take (i := 18) (v := ?_) rfl (by kernel_rfl) (by kernel_rfl) (by kernel_rfl) (fun _ _ _ h => h) (Or.inl ⟨by rfl, ?_⟩) (by assumption) ?_
  rotate_left
  · (intro w hSw; obtain ⟨⟨k0, k1, k2⟩, ⟨l0, l1, l2⟩, ⟨m0, m1, m2⟩, ex, ey⟩ := HS.out w hSw; go_simp; try (with_reducible rfl))
  try simp only [Act.put, List.getElem_toArray, List.getElem_cons_succ, List.getElem_cons_zero, List.setIfInBounds_toArray, List.set_cons_zero, List.set_cons_succ]
  refine wpAnyH_take (i := 19) (v := ?_) rfl (by kernel_rfl) (by kernel_rfl) (by kernel_rfl) (fun _ _ _ h => h) (Or.inl ⟨by rfl, ?_⟩) (by assumption) ?_
  rotate_left
  · (intro w hSw; obtain ⟨⟨k0, k1, k2⟩, ⟨l0, l1, l2⟩, ⟨m0, m1, m2⟩, ex, ey⟩ := HS.out w hSw; go_simp; try (with_reducible rfl))
  try simp only [Act.put, List.getElem_toArray, List.getElem_cons_succ, List.getElem_cons_zero, List.setIfInBounds_toArray, List.set_cons_zero, List.set_cons_succ]
  refine wpAnyH_take (i := 20) (v := ?_) rfl (by kernel_rfl) (by kernel_rfl) (by kernel_rfl) (fun _ _ _ h => h) (Or.inl ⟨by rfl, ?_⟩) (by assumption) ?_
  rotate_left
  · (intro w hSw; obtain ⟨⟨k0, k1, k2⟩, ⟨l0, l1, l2⟩, ⟨m0, m1, m2⟩, ex, ey⟩ := HS.out w hSw; go_simp; try (with_reducible rfl))
  try simp only [Act.put, List.getElem_toArray, List.getElem_cons_succ, List.getElem_cons_zero, List.setIfInBounds_toArray, List.set_cons_zero, List.set_cons_succ]
  refine wpAnyH_take (i := 21) (v := ?_) rfl (by kernel_rfl) (by kernel_rfl) (by kernel_rfl) (fun _ _ _ h => h) (Or.inl ⟨by rfl, ?_⟩) (by assumption) ?_
  rotate_left
  · (intro w hSw; obtain ⟨⟨k0, k1, k2⟩, ⟨l0, l1, l2⟩, ⟨m0, m1, m2⟩, ex, ey⟩ := HS.out w hSw; go_simp; try (with_reducible rfl))
  try simp only [Act.put, List.getElem_toArray, List.getElem_cons_succ, List.getElem_cons_zero, List.setIfInBounds_toArray, List.set_cons_zero, List.set_cons_succ]
  refine wpAnyH_take (i := 23) (v := ?_) rfl (by kernel_rfl) (by kernel_rfl) (by kernel_rfl) (fun _ _ _ h => h) (Or.inl ⟨by rfl, ?_⟩) (by assumption) ?_
  rotate_left
  · (intro w hSw; obtain ⟨⟨k0, k1, k2⟩, ⟨l0, l1, l2⟩, ⟨m0, m1, m2⟩, ex, ey⟩ := HS.out w hSw; go_simp; try (with_reducible rfl))
  try simp only [Act.put, List.getElem_toArray, List.getElem_cons_succ, List.getElem_cons_zero, List.setIfInBounds_toArray, List.set_cons_zero, List.set_cons_succ]
  refine wpAnyH_ready (rs := [22]) (by kernel_rfl) (by simp) ?_
  refine AllReadyH.cons rfl (fun K hK => ?_) ?_
  · go_simp
    refine (hC1 _).mono ?_
    rintro e w7 ⟨rfl, hb7⟩
    have hB7 := hHeld.trans (hb7.mono hHeld.size)
    refine hK.out _ _ hB7 (fun hHeld => ?_)
    clear hb7 hB7
    clear hK K
    try simp only [Act.put, List.getElem_toArray, List.getElem_cons_succ, List.getElem_cons_zero, List.setIfInBounds_toArray, List.set_cons_zero, List.set_cons_succ]
    refine wpAnyH_ready (rs := [24]) (by kernel_rfl) (by simp) ?_
    refine AllReadyH.cons rfl (fun K hK => ?_) ?_
    · go_simp
      refine (hC2 _).mono ?_
      rintro e w8 ⟨rfl, hb8⟩
      have hB8 := hHeld.trans (hb8.mono hHeld.size)
      refine hK.out _ _ hB8 (fun hHeld => ?_)
      clear hb8 hB8
      clear hK K
      try simp only [Act.put, List.getElem_toArray, List.getElem_cons_succ, List.getElem_cons_zero, List.setIfInBounds_toArray, List.set_cons_zero, List.set_cons_succ]
      refine wpAnyH_take (i := 25) (v := ?_) rfl (by kernel_rfl) (by kernel_rfl) (by kernel_rfl) (fun _ _ _ h => h) (Or.inl ⟨by rfl, ?_⟩) (by assumption) ?_
      rotate_left
      · (intro w hSw; (try dsimp only at hSw); go_simp; try (with_reducible rfl))
      try simp only [Act.put, List.getElem_toArray, List.getElem_cons_succ, List.getElem_cons_zero, List.setIfInBounds_toArray, List.set_cons_zero, List.set_cons_succ]
      refine wpAnyH_take (i := 26) (v := ?_) rfl (by kernel_rfl) (by kernel_rfl) (by kernel_rfl) (fun _ _ _ h => h) (Or.inl ⟨by rfl, ?_⟩) (by assumption) ?_
      rotate_left
      · (intro w hSw; (try dsimp only at hSw); go_simp; try (with_reducible rfl))
      try simp only [Act.put, List.getElem_toArray, List.getElem_cons_succ, List.getElem_cons_zero, List.setIfInBounds_toArray, List.set_cons_zero, List.set_cons_succ]
      refine wpAnyH_done (by kernel_rfl) ?_ _
      obtain ⟨⟨k0, k1, k2⟩, -⟩ := HS.out w8 hHeld
      have hB58 := HB5.out.trans (hHeld.mono HB5.out.size)
      have hB08 : Below w.heap.size w w8 := HW2.out.trans (hB58.mono HW2.out.size)
      have hzz := HW2.out.size
      have hz8 := hB58.size
      have hx8 := (hx2.keep hB58).more hz8
      have H58 := Lib.hid hB08; clear hB08 hB58 hHeld
      by_cases hce : ce = 0
      · have hceb : (ce == 0) = true := by simpa using hce
        obtain ⟨hde, hdr⟩ := HDE.out hce
        have hle : el.length ≤ 140737488351240 := by omega
        have hD3 := cDecode_any A1 c1 el w8 hc1 hle hx8
        rw [hde, hdr] at hD3
        simp only [keyV] at hD3
        clear hde hdr
        have HD := Lib.hid hD3; clear hD3
        go_wp2_with fail
        refine HD.out.mono ?_
        rintro e w9 ⟨rfl, hb9⟩
        have g0 := fun o => (((Below.refl w9.heap.size w9).alloc (Nat.le_refl _) o).cell (p := ⟨w.heap.size, 0, none⟩) (by show w.heap.size < w9.heap.size; have := hb9.size; omega)).trans ((hb9.cell (p := ⟨w.heap.size, 0, none⟩) (by show w.heap.size < w8.heap.size; omega)).trans k0)
        have g1 := fun o => (((Below.refl w9.heap.size w9).alloc (Nat.le_refl _) o).cell (p := ⟨w.heap.size, 1, none⟩) (by show w.heap.size < w9.heap.size; have := hb9.size; omega)).trans ((hb9.cell (p := ⟨w.heap.size, 1, none⟩) (by show w.heap.size < w8.heap.size; omega)).trans k1)
        have g2 := fun o => (((Below.refl w9.heap.size w9).alloc (Nat.le_refl _) o).cell (p := ⟨w.heap.size, 2, none⟩) (by show w.heap.size < w9.heap.size; have := hb9.size; omega)).trans ((hb9.cell (p := ⟨w.heap.size, 2, none⟩) (by show w.heap.size < w8.heap.size; omega)).trans k2)
        have hz9 := hb9.size
        have HB9 := Lib.hid hb9; clear hb9 k0 k1 k2
        go_wp2_with fail
        refine (lives01_any _).mono ?_
        rintro e w10 ⟨rfl, hb10⟩
        go_wp2_with fail
        go_ret
        exact ⟨ret_bool rfl, ((H58.out.trans (HB9.out.mono (by omega))).alloc (by omega) _).trans (hb10.mono (by simp; omega))⟩
      · have hceb : (ce == 0) = false := by simpa using hce
        go_wp2_with fail
        refine (lives01_any _).mono ?_
        rintro e w10 ⟨rfl, hb10⟩
        go_wp2_with fail
        go_ret
        exact ⟨ret_bool rfl, H58.out.trans (hb10.mono (by omega))⟩
    exact AllReadyH.nil
  exact AllReadyH.nil
end Go.Proofs.Ytbgmbnmdmjbciaa
