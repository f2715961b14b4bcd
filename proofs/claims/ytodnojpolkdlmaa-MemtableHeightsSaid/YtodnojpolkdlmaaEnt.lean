/-
  The entries that there are now, of which a condition holds.
-/
import Derived.Test.YtodnojpolkdlmaaLvM
import Derived.Deep.LoopGhost
namespace Go.Proofs.Ytodnojpolkdlmaa
set_option linter.unusedSimpArgs false
set_option linter.unusedVariables false
open Go.RowKit Go.IntWalk
attribute [local go_sem ↓] Go.wp_at_zero Go.wp_at_succ

def entsC (l : List E) : List Value := l.flatMap entC
theorem entsC_len (l : List E) : (entsC l).length = l.length * 4 := by
  unfold entsC
  induction l with
  | nil => rfl
  | cons e l ih => rw [List.flatMap_cons, List.length_append, ih, List.length_cons]; show 4 + _ = _; omega
theorem entsC_at (l : List E) : ∀ (k j : Nat) (hk : k < l.length), j < 4 → (entsC l)[k * 4 + j]? = (entC (l[k]'hk))[j]? := by
  induction l with
  | nil => intro k j hk; simp at hk
  | cons e l ih =>
    intro k j hk hj
    unfold entsC
    rw [List.flatMap_cons]
    rcases k with _ | k
    · rw [List.getElem?_append_left (by show 0 * 4 + j < 4; omega)]
      simp
    · rw [List.getElem?_append_right (by show 4 ≤ (k + 1) * 4 + j; omega)]
      have h4 : (entC e).length = 4 := rfl
      rw [h4, show (k + 1) * 4 + j - 4 = k * 4 + j by omega]
      have := ih k j (by simpa using hk) hj
      unfold entsC at this
      rw [this]
      simp
/-- entry k of a list that reads as l: its four cells -/
theorem ent_at {w : World} {B : Nat} {A : Option Addr} {l : List E} (h : Rd w B A (entsC l)) {k : Nat} (hk : k < l.length) :
    ∃ b off, A = some ⟨b, off, none⟩ ∧ b < B ∧ w.cell? ⟨b, off + k * 4, none⟩ = some (.string (l[k]'hk).k.u) ∧ w.cell? ⟨b, off + k * 4 + 1, none⟩ = some (.int .u64 (l[k]'hk).k.s) ∧
      w.cell? ⟨b, off + k * 4 + 2, none⟩ = some (.int .i64 (l[k]'hk).k.k) ∧ w.cell? ⟨b, off + k * 4 + 3, none⟩ = some (.string (l[k]'hk).v) := by
  rcases h with h | ⟨b, off, rfl, hb, hc⟩
  · have := entsC_len l
    rw [h] at this; simp at this; omega
  · refine ⟨b, off, rfl, hb, ?_, ?_, ?_, ?_⟩
    · exact hc (k * 4 + 0) _ (entsC_at l k 0 hk (by omega))
    · exact hc (k * 4 + 1) _ (entsC_at l k 1 hk (by omega))
    · exact hc (k * 4 + 2) _ (entsC_at l k 2 hk (by omega))
    · exact hc (k * 4 + 3) _ (entsC_at l k 3 hk (by omega))

theorem entsC_snoc (l : List E) (e : E) : entsC (l ++ [e]) = entsC l ++ entC e := by unfold entsC; rw [List.flatMap_append]; simp
theorem info_entryM : (Try.prog.info? 47).map (fun i => (i.zero, i.size, i.bytes)) = some (some (.agg #[.string ⟨#[]⟩, .int .u64 0, .int .i64 0, .string ⟨#[]⟩]), 4, 48) := by kernel_rfl
/-- what a closure asks of a key -/
def holdsA (how : Int) (f : K) (e : E) : Bool := decide (0 ≤ ordK how e.k f)
def holdsB (how : Int) (f : K) (e : E) : Bool := decide (ordK how e.k f ≤ 0)
set_option maxHeartbeats 2000000 in
set_option maxRecDepth 100000 in
theorem mAll11_any (bt bk g : Nat) (how : Int) (f : K) (e : E) (w : World) (ht : w.cell? ⟨bt, 0, none⟩ = some (.pointer (some ⟨g, 0, none⟩))) (hg : w.cell? ⟨g, 0, none⟩ = some (.int .i64 how)) (hk : w.cell? ⟨bk, 0, none⟩ = some (.string f.u) ∧ w.cell? ⟨bk, 1, none⟩ = some (.int .u64 f.s) ∧ w.cell? ⟨bk, 2, none⟩ = some (.int .i64 f.k))
    (hbt : bt < w.heap.size) (hbk : bk < w.heap.size) (hgl : g < w.heap.size) :
    Calls Try.prog 32 #[.agg #[.string e.k.u, .int .u64 e.k.s, .int .i64 e.k.k], .pointer (some ⟨bt, 0, none⟩), .pointer (some ⟨bk, 0, none⟩)] w fun en w' => en = .returned (.bool (holdsA how f e)) ∧ Below w.heap.size w w' := by
  unfold holdsA
  have hO := fun w => cOrder_any how e.k.s e.k.k f.s f.k e.k.u f.u w
  obtain ⟨⟨u, s, q⟩, v⟩ := e
  obtain ⟨fu, fs, fq⟩ := f
  dsimp only at *
  have hb0 : Below w.heap.size w (w.alloc (.cells #[.string u, .int .u64 s, .int .i64 q] 45)) := (Below.refl _ w).alloc (Nat.le_refl _) _
  have hx := Blk.new w 45 #[.string u, .int .u64 s, .int .i64 q]
  have b0 := (hb0.cell (p := ⟨bt, 0, none⟩) hbt).trans ht
  have b1 := (hb0.cell (p := ⟨g, 0, none⟩) hgl).trans hg
  have k0 := (hb0.cell (p := ⟨bk, 0, none⟩) hbk).trans hk.1
  have k1 := (hb0.cell (p := ⟨bk, 1, none⟩) hbk).trans hk.2.1
  have k2 := (hb0.cell (p := ⟨bk, 2, none⟩) hbk).trans hk.2.2
  have x0 : (w.alloc (.cells #[.string u, .int .u64 s, .int .i64 q] 45)).cell? ⟨w.heap.size, 0, none⟩ = some (.string u) := hx.cell 0
  have x1 : (w.alloc (.cells #[.string u, .int .u64 s, .int .i64 q] 45)).cell? ⟨w.heap.size, 1, none⟩ = some (.int .u64 s) := hx.cell 1
  have x2 : (w.alloc (.cells #[.string u, .int .u64 s, .int .i64 q] 45)).cell? ⟨w.heap.size, 2, none⟩ = some (.int .i64 q) := hx.cell 2
  have HB0 := Lib.hid hb0
  clear hx ht hg hk hb0
  generalize ordK how ⟨u, s, q⟩ ⟨fu, fs, fq⟩ = o at *
  have HO := Lib.hid hO
  clear hO
  go_enter Try.func32, Try.ntmps32
  go_wp2_with fail
  generalize w.alloc (.cells #[.string u, .int .u64 s, .int .i64 q] 45) = wx at *
  have hSS : ∀ w', Below wx.heap.size wx w' → (w'.cell? ⟨bt, 0, none⟩ = some (.pointer (some ⟨g, 0, none⟩)) ∧ w'.cell? ⟨g, 0, none⟩ = some (.int .i64 how)) ∧ (w'.cell? ⟨bk, 0, none⟩ = some (.string fu) ∧ w'.cell? ⟨bk, 1, none⟩ = some (.int .u64 fs) ∧ w'.cell? ⟨bk, 2, none⟩ = some (.int .i64 fq)) ∧
      w'.cell? ⟨w.heap.size, 0, none⟩ = some (.string u) ∧ w'.cell? ⟨w.heap.size, 1, none⟩ = some (.int .u64 s) ∧ w'.cell? ⟨w.heap.size, 2, none⟩ = some (.int .i64 q) := fun w' h' =>
    have hc : ∀ (b i : Nat) (v : Value), wx.cell? ⟨b, i, none⟩ = some v → w'.cell? ⟨b, i, none⟩ = some v := fun b i v hv => (h'.cell (p := ⟨b, i, none⟩) (World.block_lt_of_cell? _ _ hv)).trans hv
    ⟨⟨hc _ _ _ b0, hc _ _ _ b1⟩, ⟨hc _ _ _ k0, hc _ _ _ k1, hc _ _ _ k2⟩, hc _ _ _ x0, hc _ _ _ x1, hc _ _ _ x2⟩
  have HSS := Lib.hid hSS
  clear hSS b0 b1 k0 k1 k2 x0 x1 x2
  refine wp_region_held_drew (S := fun w' => Below wx.heap.size wx w') (by kernel_rfl) (Below.refl _ _).drew (fun hHeld => ?_)
  refine wpAnyH_take (i := 0) (v := ?_) rfl (by kernel_rfl) (by kernel_rfl) (by kernel_rfl) (fun _ _ _ h => h) (Or.inl ⟨by rfl, ?_⟩) (by assumption) ?_
  rotate_left
  · (intro w hSw; obtain ⟨⟨b0, b1⟩, ⟨k0, k1, k2⟩, x0, x1, x2⟩ := HSS.out w hSw; go_simp; try (with_reducible rfl))
  try simp only [Act.put, List.getElem_toArray, List.getElem_cons_succ, List.getElem_cons_zero, List.setIfInBounds_toArray, List.set_cons_zero, List.set_cons_succ]
  refine wpAnyH_take (i := 1) (v := ?_) rfl (by kernel_rfl) (by kernel_rfl) (by kernel_rfl) (fun _ _ _ h => h) (Or.inl ⟨by rfl, ?_⟩) (by assumption) ?_
  rotate_left
  · (intro w hSw; obtain ⟨⟨b0, b1⟩, ⟨k0, k1, k2⟩, x0, x1, x2⟩ := HSS.out w hSw; go_simp; try (with_reducible rfl))
  try simp only [Act.put, List.getElem_toArray, List.getElem_cons_succ, List.getElem_cons_zero, List.setIfInBounds_toArray, List.set_cons_zero, List.set_cons_succ]
  refine wpAnyH_take (i := 2) (v := ?_) rfl (by kernel_rfl) (by kernel_rfl) (by kernel_rfl) (fun _ _ _ h => h) (Or.inl ⟨by rfl, ?_⟩) (by assumption) ?_
  rotate_left
  · (intro w hSw; obtain ⟨⟨b0, b1⟩, ⟨k0, k1, k2⟩, x0, x1, x2⟩ := HSS.out w hSw; go_simp; try (with_reducible rfl))
  try simp only [Act.put, List.getElem_toArray, List.getElem_cons_succ, List.getElem_cons_zero, List.setIfInBounds_toArray, List.set_cons_zero, List.set_cons_succ]
  refine wpAnyH_take (i := 3) (v := ?_) rfl (by kernel_rfl) (by kernel_rfl) (by kernel_rfl) (fun _ _ _ h => h) (Or.inl ⟨by rfl, ?_⟩) (by assumption) ?_
  rotate_left
  · (intro w hSw; obtain ⟨⟨b0, b1⟩, ⟨k0, k1, k2⟩, x0, x1, x2⟩ := HSS.out w hSw; go_simp; try (with_reducible rfl))
  try simp only [Act.put, List.getElem_toArray, List.getElem_cons_succ, List.getElem_cons_zero, List.setIfInBounds_toArray, List.set_cons_zero, List.set_cons_succ]
  refine wpAnyH_take (i := 4) (v := ?_) rfl (by kernel_rfl) (by kernel_rfl) (by kernel_rfl) (fun _ _ _ h => h) (Or.inl ⟨by rfl, ?_⟩) (by assumption) ?_
  rotate_left
  · (intro w hSw; obtain ⟨⟨b0, b1⟩, ⟨k0, k1, k2⟩, x0, x1, x2⟩ := HSS.out w hSw; go_simp; try (with_reducible rfl))
  try simp only [Act.put, List.getElem_toArray, List.getElem_cons_succ, List.getElem_cons_zero, List.setIfInBounds_toArray, List.set_cons_zero, List.set_cons_succ]
  refine wpAnyH_take (i := 5) (v := ?_) rfl (by kernel_rfl) (by kernel_rfl) (by kernel_rfl) (fun _ _ _ h => h) (Or.inl ⟨by rfl, ?_⟩) (by assumption) ?_
  rotate_left
  · (intro w hSw; obtain ⟨⟨b0, b1⟩, ⟨k0, k1, k2⟩, x0, x1, x2⟩ := HSS.out w hSw; go_simp; try (with_reducible rfl))
  try simp only [Act.put, List.getElem_toArray, List.getElem_cons_succ, List.getElem_cons_zero, List.setIfInBounds_toArray, List.set_cons_zero, List.set_cons_succ]
  refine wpAnyH_ready (rs := [6]) (by kernel_rfl) (by simp) ?_
  refine AllReadyH.cons rfl (fun K hK => ?_) ?_
  · go_simp
    refine (HO.out _).mono ?_
    rintro e w3 ⟨rfl, hb3⟩
    have hB3 := hHeld.trans (hb3.mono hHeld.size)
    refine hK.out _ _ hB3 (fun hHeld => ?_)
    clear hb3 hB3
    clear hK K
    try simp only [Act.put, List.getElem_toArray, List.getElem_cons_succ, List.getElem_cons_zero, List.setIfInBounds_toArray, List.set_cons_zero, List.set_cons_succ]
    refine wpAnyH_take (i := 7) (v := ?_) rfl (by kernel_rfl) (by kernel_rfl) (by kernel_rfl) (fun _ _ _ h => h) (Or.inl ⟨by rfl, ?_⟩) (by assumption) ?_
    rotate_left
    · (intro w hSw; (try dsimp only at hSw); go_simp; try (with_reducible rfl))
    try simp only [Act.put, List.getElem_toArray, List.getElem_cons_succ, List.getElem_cons_zero, List.setIfInBounds_toArray, List.set_cons_zero, List.set_cons_succ]
    refine wpAnyH_take (i := 8) (v := ?_) rfl (by kernel_rfl) (by kernel_rfl) (by kernel_rfl) (fun _ _ _ h => h) (Or.inl ⟨by rfl, ?_⟩) (by assumption) ?_
    rotate_left
    · (intro w hSw; (try dsimp only at hSw); go_simp; try (with_reducible rfl))
    try simp only [Act.put, List.getElem_toArray, List.getElem_cons_succ, List.getElem_cons_zero, List.setIfInBounds_toArray, List.set_cons_zero, List.set_cons_succ]
    refine wpAnyH_done (by kernel_rfl) ?_ _
    go_wp2_with fail
    go_ret
    exact ⟨ret_bool (by first | rfl | (simp; done)), HB0.out.trans (hHeld.mono HB0.out.size)⟩
  exact AllReadyH.nil
set_option maxHeartbeats 2000000 in
set_option maxRecDepth 100000 in
theorem mBack11_any (bt bk g : Nat) (how : Int) (f : K) (e : E) (w : World) (ht : w.cell? ⟨bt, 0, none⟩ = some (.pointer (some ⟨g, 0, none⟩))) (hg : w.cell? ⟨g, 0, none⟩ = some (.int .i64 how)) (hk : w.cell? ⟨bk, 0, none⟩ = some (.string f.u) ∧ w.cell? ⟨bk, 1, none⟩ = some (.int .u64 f.s) ∧ w.cell? ⟨bk, 2, none⟩ = some (.int .i64 f.k))
    (hbt : bt < w.heap.size) (hbk : bk < w.heap.size) (hgl : g < w.heap.size) :
    Calls Try.prog 36 #[.agg #[.string e.k.u, .int .u64 e.k.s, .int .i64 e.k.k], .pointer (some ⟨bt, 0, none⟩), .pointer (some ⟨bk, 0, none⟩)] w fun en w' => en = .returned (.bool (holdsB how f e)) ∧ Below w.heap.size w w' := by
  unfold holdsB
  have hO := fun w => cOrder_any how e.k.s e.k.k f.s f.k e.k.u f.u w
  obtain ⟨⟨u, s, q⟩, v⟩ := e
  obtain ⟨fu, fs, fq⟩ := f
  dsimp only at *
  have hb0 : Below w.heap.size w (w.alloc (.cells #[.string u, .int .u64 s, .int .i64 q] 45)) := (Below.refl _ w).alloc (Nat.le_refl _) _
  have hx := Blk.new w 45 #[.string u, .int .u64 s, .int .i64 q]
  have b0 := (hb0.cell (p := ⟨bt, 0, none⟩) hbt).trans ht
  have b1 := (hb0.cell (p := ⟨g, 0, none⟩) hgl).trans hg
  have k0 := (hb0.cell (p := ⟨bk, 0, none⟩) hbk).trans hk.1
  have k1 := (hb0.cell (p := ⟨bk, 1, none⟩) hbk).trans hk.2.1
  have k2 := (hb0.cell (p := ⟨bk, 2, none⟩) hbk).trans hk.2.2
  have x0 : (w.alloc (.cells #[.string u, .int .u64 s, .int .i64 q] 45)).cell? ⟨w.heap.size, 0, none⟩ = some (.string u) := hx.cell 0
  have x1 : (w.alloc (.cells #[.string u, .int .u64 s, .int .i64 q] 45)).cell? ⟨w.heap.size, 1, none⟩ = some (.int .u64 s) := hx.cell 1
  have x2 : (w.alloc (.cells #[.string u, .int .u64 s, .int .i64 q] 45)).cell? ⟨w.heap.size, 2, none⟩ = some (.int .i64 q) := hx.cell 2
  have HB0 := Lib.hid hb0
  clear hx ht hg hk hb0
  generalize ordK how ⟨u, s, q⟩ ⟨fu, fs, fq⟩ = o at *
  have HO := Lib.hid hO
  clear hO
  go_enter Try.func36, Try.ntmps36
  go_wp2_with fail
  generalize w.alloc (.cells #[.string u, .int .u64 s, .int .i64 q] 45) = wx at *
  have hSS : ∀ w', Below wx.heap.size wx w' → (w'.cell? ⟨bt, 0, none⟩ = some (.pointer (some ⟨g, 0, none⟩)) ∧ w'.cell? ⟨g, 0, none⟩ = some (.int .i64 how)) ∧ (w'.cell? ⟨bk, 0, none⟩ = some (.string fu) ∧ w'.cell? ⟨bk, 1, none⟩ = some (.int .u64 fs) ∧ w'.cell? ⟨bk, 2, none⟩ = some (.int .i64 fq)) ∧
      w'.cell? ⟨w.heap.size, 0, none⟩ = some (.string u) ∧ w'.cell? ⟨w.heap.size, 1, none⟩ = some (.int .u64 s) ∧ w'.cell? ⟨w.heap.size, 2, none⟩ = some (.int .i64 q) := fun w' h' =>
    have hc : ∀ (b i : Nat) (v : Value), wx.cell? ⟨b, i, none⟩ = some v → w'.cell? ⟨b, i, none⟩ = some v := fun b i v hv => (h'.cell (p := ⟨b, i, none⟩) (World.block_lt_of_cell? _ _ hv)).trans hv
    ⟨⟨hc _ _ _ b0, hc _ _ _ b1⟩, ⟨hc _ _ _ k0, hc _ _ _ k1, hc _ _ _ k2⟩, hc _ _ _ x0, hc _ _ _ x1, hc _ _ _ x2⟩
  have HSS := Lib.hid hSS
  clear hSS b0 b1 k0 k1 k2 x0 x1 x2
  refine wp_region_held_drew (S := fun w' => Below wx.heap.size wx w') (by kernel_rfl) (Below.refl _ _).drew (fun hHeld => ?_)
  refine wpAnyH_take (i := 0) (v := ?_) rfl (by kernel_rfl) (by kernel_rfl) (by kernel_rfl) (fun _ _ _ h => h) (Or.inl ⟨by rfl, ?_⟩) (by assumption) ?_
  rotate_left
  · (intro w hSw; obtain ⟨⟨b0, b1⟩, ⟨k0, k1, k2⟩, x0, x1, x2⟩ := HSS.out w hSw; go_simp; try (with_reducible rfl))
  try simp only [Act.put, List.getElem_toArray, List.getElem_cons_succ, List.getElem_cons_zero, List.setIfInBounds_toArray, List.set_cons_zero, List.set_cons_succ]
  refine wpAnyH_take (i := 1) (v := ?_) rfl (by kernel_rfl) (by kernel_rfl) (by kernel_rfl) (fun _ _ _ h => h) (Or.inl ⟨by rfl, ?_⟩) (by assumption) ?_
  rotate_left
  · (intro w hSw; obtain ⟨⟨b0, b1⟩, ⟨k0, k1, k2⟩, x0, x1, x2⟩ := HSS.out w hSw; go_simp; try (with_reducible rfl))
  try simp only [Act.put, List.getElem_toArray, List.getElem_cons_succ, List.getElem_cons_zero, List.setIfInBounds_toArray, List.set_cons_zero, List.set_cons_succ]
  refine wpAnyH_take (i := 2) (v := ?_) rfl (by kernel_rfl) (by kernel_rfl) (by kernel_rfl) (fun _ _ _ h => h) (Or.inl ⟨by rfl, ?_⟩) (by assumption) ?_
  rotate_left
  · (intro w hSw; obtain ⟨⟨b0, b1⟩, ⟨k0, k1, k2⟩, x0, x1, x2⟩ := HSS.out w hSw; go_simp; try (with_reducible rfl))
  try simp only [Act.put, List.getElem_toArray, List.getElem_cons_succ, List.getElem_cons_zero, List.setIfInBounds_toArray, List.set_cons_zero, List.set_cons_succ]
  refine wpAnyH_take (i := 3) (v := ?_) rfl (by kernel_rfl) (by kernel_rfl) (by kernel_rfl) (fun _ _ _ h => h) (Or.inl ⟨by rfl, ?_⟩) (by assumption) ?_
  rotate_left
  · (intro w hSw; obtain ⟨⟨b0, b1⟩, ⟨k0, k1, k2⟩, x0, x1, x2⟩ := HSS.out w hSw; go_simp; try (with_reducible rfl))
  try simp only [Act.put, List.getElem_toArray, List.getElem_cons_succ, List.getElem_cons_zero, List.setIfInBounds_toArray, List.set_cons_zero, List.set_cons_succ]
  refine wpAnyH_take (i := 4) (v := ?_) rfl (by kernel_rfl) (by kernel_rfl) (by kernel_rfl) (fun _ _ _ h => h) (Or.inl ⟨by rfl, ?_⟩) (by assumption) ?_
  rotate_left
  · (intro w hSw; obtain ⟨⟨b0, b1⟩, ⟨k0, k1, k2⟩, x0, x1, x2⟩ := HSS.out w hSw; go_simp; try (with_reducible rfl))
  try simp only [Act.put, List.getElem_toArray, List.getElem_cons_succ, List.getElem_cons_zero, List.setIfInBounds_toArray, List.set_cons_zero, List.set_cons_succ]
  refine wpAnyH_take (i := 5) (v := ?_) rfl (by kernel_rfl) (by kernel_rfl) (by kernel_rfl) (fun _ _ _ h => h) (Or.inl ⟨by rfl, ?_⟩) (by assumption) ?_
  rotate_left
  · (intro w hSw; obtain ⟨⟨b0, b1⟩, ⟨k0, k1, k2⟩, x0, x1, x2⟩ := HSS.out w hSw; go_simp; try (with_reducible rfl))
  try simp only [Act.put, List.getElem_toArray, List.getElem_cons_succ, List.getElem_cons_zero, List.setIfInBounds_toArray, List.set_cons_zero, List.set_cons_succ]
  refine wpAnyH_ready (rs := [6]) (by kernel_rfl) (by simp) ?_
  refine AllReadyH.cons rfl (fun K hK => ?_) ?_
  · go_simp
    refine (HO.out _).mono ?_
    rintro e w3 ⟨rfl, hb3⟩
    have hB3 := hHeld.trans (hb3.mono hHeld.size)
    refine hK.out _ _ hB3 (fun hHeld => ?_)
    clear hb3 hB3
    clear hK K
    try simp only [Act.put, List.getElem_toArray, List.getElem_cons_succ, List.getElem_cons_zero, List.setIfInBounds_toArray, List.set_cons_zero, List.set_cons_succ]
    refine wpAnyH_take (i := 7) (v := ?_) rfl (by kernel_rfl) (by kernel_rfl) (by kernel_rfl) (fun _ _ _ h => h) (Or.inl ⟨by rfl, ?_⟩) (by assumption) ?_
    rotate_left
    · (intro w hSw; (try dsimp only at hSw); go_simp; try (with_reducible rfl))
    try simp only [Act.put, List.getElem_toArray, List.getElem_cons_succ, List.getElem_cons_zero, List.setIfInBounds_toArray, List.set_cons_zero, List.set_cons_succ]
    refine wpAnyH_take (i := 8) (v := ?_) rfl (by kernel_rfl) (by kernel_rfl) (by kernel_rfl) (fun _ _ _ h => h) (Or.inl ⟨by rfl, ?_⟩) (by assumption) ?_
    rotate_left
    · (intro w hSw; (try dsimp only at hSw); go_simp; try (with_reducible rfl))
    try simp only [Act.put, List.getElem_toArray, List.getElem_cons_succ, List.getElem_cons_zero, List.setIfInBounds_toArray, List.set_cons_zero, List.set_cons_succ]
    refine wpAnyH_done (by kernel_rfl) ?_ _
    go_wp2_with fail
    go_ret
    exact ⟨ret_bool (by first | rfl | (simp; done)), HB0.out.trans (hHeld.mono HB0.out.size)⟩
  exact AllReadyH.nil
end Go.Proofs.Ytodnojpolkdlmaa
