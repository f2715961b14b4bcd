/-
  The walks of slices.Backward over bytes and of the program's read: a number out of bytes, the last byte first.
-/
import Derived.Test.YtlcnachblcacjaaCodE
import Derived.RangeFuncNested
import Derived.RangeFuncBound
import Derived.RangeFuncCalls
import Derived.RangeFuncLeaves
import Derived.Shelf.Abstract
import Derived.Shelf.RegionOpen
import Derived.OwnWalkIn
import Derived.TacticsInMore
import Derived.LoopNIn
import Derived.LoopIn
namespace Go.Proofs.Ytlcnachblcacjaa
open Go.RowKit Go.Shelf
attribute [local go_sem] Oper.semAt_some

/-- what a round of a loop over an iterator keeps: all below block n, and the iterator's own box -/
def BelowX (n bx : Nat) (W W' : World) : Prop := Below n W W' ∧ W'.heap[bx]? = W.heap[bx]?
theorem BelowX.refl (n bx : Nat) (W : World) : BelowX n bx W W := ⟨Below.refl _ _, rfl⟩
theorem belowX_t {n bx : Nat} {A B C : World} (h : BelowX n bx A B) (k : BelowX n bx B C) : BelowX n bx A C := ⟨h.1.trans k.1, k.2.trans h.2⟩
theorem belowX_b {n bx : Nat} {w : World} (hn : n ≤ w.heap.size) (hx : bx < w.heap.size) (W : World) (l : Nat) (o o' : Obj) (hl : w.heap.size ≤ l) (h : W.heap[l]? = some o) (h1 : o.isCells = false) (h2 : o.isWalk = false) : BelowX n bx W (W.putObj l o') :=
  ⟨belowK_b hn W l o o' hl h h1 h2, World.putObj_heap_other (by omega)⟩
theorem BelowX.cell {n bx : Nat} {W W' : World} (h : BelowX n bx W W') (o : Nat) : W'.cell? ⟨bx, o, none⟩ = W.cell? ⟨bx, o, none⟩ := World.cell?_of_block (w := W) h.2
/-- what has come when a list was gone through backward, k rounds long: the places and the bytes -/
def backs (l : List UInt8) (k : Nat) : List (Int × UInt8) := (List.range k).map fun (i : Nat) => (((l.length : Int) - 1 - (i : Int)), l[l.length - 1 - i]?.getD 0)
theorem backs_succ (l : List UInt8) (k : Nat) : backs l (k + 1) = backs l k ++ [((l.length : Int) - 1 - k, l[l.length - 1 - k]?.getD 0)] := by unfold backs; rw [List.range_succ]; simp
theorem backs_len (l : List UInt8) (k : Nat) : (backs l k).length = k := by unfold backs; simp
set_option maxRecDepth 100000 in
set_option maxHeartbeats 2000000 in
theorem backB1_in (F : Fence) (n : Nat) (hF : F.fn 39) (hro : F.round = none) (hn : 1 ≤ n) (r Bx n₀ : Nat) (A : Option Addr) (cap : Nat) (l : List UInt8) (hl : l.length ≤ 4611686018427387904) (J Jx : List (Int × UInt8) → World → Prop)
    (hY : ∀ pre x W, J pre W → pre.length < l.length → YieldAt F (n - 1) Try.prog r #[.int .i64 x.1, .int .u8 x.2.toNat] W fun e W' =>
      (e = .returned (.bool true) ∧ J (pre ++ [x]) W' ∧ BelowX n₀ Bx W W') ∨ (e = .returned (.bool false) ∧ Jx (pre ++ [x]) W'))
    (W : World) (hBx : W.cell? ⟨Bx, 0, none⟩ = some (.slice A l.length cap)) (hbs : Bs W n₀ A l) (h0 : J [] W) :
    CallsIn F n Try.prog 39 #[.func (.yield r) #[] #[], .pointer (some ⟨Bx, 0, none⟩)] W fun e W' => (∃ v, e = .returned v) ∧
      (J (backs l l.length) W' ∨ ∃ k, k ≤ l.length ∧ Jx (backs l k) W') := by
  refine callsIn_of_wp Try.func39 rfl hF ?_ hro
  simp only [Try.ntmps39, List.size_toArray, List.length_cons, List.length_nil, Nat.reduceAdd, Nat.reduceSub, Array.replicate_succ, Array.replicate_zero, List.push_toArray, List.append_toArray, List.nil_append, List.cons_append]
  gi_wp2
  gi_loopw [3] (fun i wr => ∃ k : Nat, k ≤ l.length ∧ i = .int .i64 ((l.length : Int) - 1 - k) ∧ Hid (J (backs l k) wr) ∧ Hid (BelowX n₀ Bx W wr))
    (fun i _ => (intOf i + 1).toNat)
  case atStart => exact ⟨0, Nat.zero_le _, by simp, by simpa [Hid, backs] using h0, BelowX.refl _ _ _⟩
  case round =>
    obtain ⟨k, hk, rfl, HJ, HB⟩ := hrel
    by_cases hlt : k < l.length
    · obtain ⟨m, hm⟩ : ∃ m, m = l.length - 1 - k := ⟨_, rfl⟩
      have hml : m < l.length := by omega
      have hmi : (l.length : Int) - 1 - k = m := by omega
      have hlx : l[l.length - 1 - k]?.getD 0 = l[m] := by rw [← hm, List.getElem?_eq_getElem hml]; rfl
      obtain ⟨b, off, x, rfl, _, hx, hc, HX⟩ := byte_at (hbs.keep HB.out.1) hml
      have hcx : wr.cell? ⟨Bx, 0, none⟩ = some (.slice (some ⟨b, off, none⟩) l.length cap) := (HB.out.cell 0).trans hBx
      obtain ⟨fn, tmps, assign, body, hy, hR⟩ := hY _ ((m : Int), l[m]) wr HJ.out (by rw [backs_len]; exact hlt)
      dsimp only at hy
      rw [← HX.out] at hy
      have hst : backs l k ++ [((m : Int), l[m])] = backs l (k + 1) := by rw [backs_succ, hlx, hmi]
      rw [hst] at hR
      clear hst hlx
      have HM := Lib.hid hm; clear hm
      rw [hmi]
      clear hmi
      gi_wp2
      refine hR.mono ?_
      rintro e W3 (⟨rfl, hJ3, hk3⟩ | ⟨rfl, hJx3⟩)
      · gi_wp2
        go_roundw
        case rel => exact ⟨k + 1, by omega, by rw [HM.out]; congr 1; omega, hJ3, belowX_t HB.out hk3⟩
        case measure => simp [intOf]
      · gi_wp2
        refine bodyPost_ret (results_none rfl _ _ _) rfl ?_
        exact ⟨⟨_, rfl⟩, .inr ⟨k + 1, by omega, hJx3⟩⟩
    · obtain rfl : k = l.length := by omega
      gi_wp2
      go_end0
      exact ⟨⟨_, rfl⟩, .inl HJ.out⟩
theorem backB_in (F : Fence) (n : Nat) (hF : F.fn 38) (hro : F.round = none) (A : Option Addr) (len cap : Nat) (w : World) :
    CallsIn F n Try.prog 38 #[.slice A len cap] w fun e w' => e = .returned (.func (.func 39) #[] #[.pointer (some ⟨w.heap.size, 0, none⟩)]) ∧ w' = w.alloc (.cells #[.slice A len cap] 22) := by
  refine callsIn_of_wp Try.func38 rfl hF ?_ hro
  simp only [Try.ntmps38, List.size_toArray, List.length_cons, List.length_nil, Nat.reduceAdd, Nat.reduceSub, Array.replicate_succ, Array.replicate_zero, List.push_toArray, List.append_toArray, List.nil_append, List.cons_append]
  gi_wp2
  go_ret
  exact ⟨rfl, rfl⟩
theorem backB_stops (F : Fence) (n : Nat) (hF : F.fn 39) (hro : F.round = none) (hn : 1 ≤ n) (Bx n₀ : Nat) (A : Option Addr) (cap : Nat) (l : List UInt8) (hl : l.length ≤ 4611686018427387904) (w : World)
    (hBw : Bx < w.heap.size) (hBx : w.cell? ⟨Bx, 0, none⟩ = some (.slice A l.length cap)) (hn₀ : n₀ ≤ w.heap.size) (hbs : Bs w n₀ A l) :
    SeqStopsK F n Try.prog 39 #[.pointer (some ⟨Bx, 0, none⟩)] (fun x : Int × UInt8 => #[Value.int .i64 x.1, .int .u8 x.2.toNat]) (BelowX n₀ Bx) (fun ys => ys = backs l l.length) (fun pre => ∃ k, k ≤ l.length ∧ pre = backs l k) l.length w := fun r J Jx W hW _ _ hY h0 => by
  refine (backB1_in F n hF hro hn r Bx n₀ A cap l hl J Jx hY W ((hW.cell (p := ⟨Bx, 0, none⟩) hBw).trans hBx) (hbs.keep (hW.mono hn₀)) h0).mono ?_
  rintro e W' ⟨he, hj | ⟨k, hk, hj⟩⟩
  · exact ⟨he, .inl ⟨_, rfl, hj⟩⟩
  · exact ⟨he, .inr ⟨_, ⟨k, hk, rfl⟩, hj⟩⟩

/-- what read has reckoned when so much has come -/
def rdN (pre : List (Int × UInt8)) : Nat := pre.foldl (fun q x => x.2.toNat + 256 * q) 0
theorem rdN_snoc (pre : List (Int × UInt8)) (x : Int × UInt8) : rdN (pre ++ [x]) = x.2.toNat + 256 * rdN pre := by unfold rdN; simp
theorem rdN_backs (l : List UInt8) : ∀ k, k ≤ l.length → rdN (backs l k) = unB (l.drop (l.length - k))
  | 0, _ => by simp [backs, rdN, unB]
  | k + 1, h => by
    have hlt : l.length - 1 - k < l.length := by omega
    rw [backs_succ, rdN_snoc, rdN_backs l k (by omega), show l.length - (k + 1) = l.length - 1 - k by omega, unB_drop l _ hlt, show l.length - 1 - k + 1 = l.length - k by omega, List.getElem?_eq_getElem hlt]
    rfl
theorem rdN_all (l : List UInt8) : rdN (backs l l.length) = unB l := by rw [rdN_backs l _ (Nat.le_refl _)]; simp
theorem rdN_lt_from : ∀ (pre : List (Int × UInt8)) (q d : Nat), q < 256 ^ d → pre.foldl (fun q x => x.2.toNat + 256 * q) q < 256 ^ (d + pre.length)
  | [], q, d, h => by simpa using h
  | x :: pre, q, d, h => by
    have h2 := x.2.toNat_lt
    have := rdN_lt_from pre _ (d + 1) (step256 (x := x.2.toNat) h (by omega))
    rw [List.foldl_cons, List.length_cons, show d + (pre.length + 1) = d + 1 + pre.length by omega]
    exact this
theorem rdN_lt (pre : List (Int × UInt8)) : rdN pre < 256 ^ pre.length := by
  have := rdN_lt_from pre 0 0 (by simp)
  simpa [rdN] using this
set_option maxHeartbeats 2000000 in
set_option maxRecDepth 100000 in
theorem cread_long (k : Nat) (A : Option Addr) (cap : Nat) (l : List UInt8) (w : World) (hk : k ≤ 8) (hs : k ≤ l.length) (hl : l.length ≤ cap) (hbs : Bs w w.heap.size A l) :
    Calls Try.prog 34 #[.slice A l.length cap, .int .i64 k] w fun e w' => e = .returned (.tuple #[.int .u64 (unB (l.take k) : Nat), .int .i64 0]) ∧ Below w.heap.size w w' := by
  refine (callsIn_wide (n := 6)).1 ?_
  refine callsIn_of_wp_marks Try.func34 rfl trivial ?_ rfl
  simp only [Try.ntmps34, List.size_toArray, List.length_cons, List.length_nil, Nat.reduceAdd, Nat.reduceSub, Array.replicate_succ, Array.replicate_zero, List.push_toArray, List.append_toArray, List.nil_append, List.cons_append]
  have hd : decide ((l.length : Int) < (k : Int)) = false := by simp; omega
  gi_wp2_with (refine ⟨trivial, ?_⟩; gi_at_call 38; refine (backB_in Fence.wide _ trivial rfl _ _ _ _).mono ?_; rintro e w' ⟨rfl, rfl⟩)
  have hlk : (l.take k).length = k := by simp; omega
  obtain ⟨w1, e1, hb, hz, h1, h2⟩ := two_boxes w #[.int .u64 0] #[.slice A k cap] 55 22
  rw [e1]
  have hc0 : w1.cell? ⟨w.heap.size, 0, none⟩ = some (.int .u64 0) := h1 0
  have hf0 : w1.frozen? ⟨w.heap.size, 0, none⟩ = false := by
    rw [← e1, frozen?_alloc_cells, frozen?_alloc_cells]
    unfold World.frozen?
    rw [Array.getElem?_eq_none (Nat.le_refl _)]
  have hcb : w1.cell? ⟨w.heap.size + 1, 0, none⟩ = some (.slice A (l.take k).length cap) := by rw [hlk]; exact h2 0
  have hbs1 : Bs w1 w.heap.size A (l.take k) := by
    have h := hbs.keep hb
    have h' := h.take k
    rw [← List.map_take] at h'
    exact h'
  clear e1 h1 h2
  refine wpIn_rangeFunc_ownF rfl (by decide) (gf := 39) (lb := #[.pointer (some ⟨w.heap.size + 1, 0, none⟩)]) rfl trivial (enters_of Try.func39 (by kernel_rfl) rfl)
    (backB_stops Fence.wide _ trivial rfl (by decide) (w.heap.size + 1) w.heap.size A cap (l.take k) (by omega) w1 (by omega) hcb (by omega) hbs1) belowX_t (belowX_b (by omega) (by omega)) (Below.refl _ _) (fun _ => rfl)
    (fun pre W => (W.cell? ⟨w.heap.size, 0, none⟩ = some (.int .u64 (rdN pre : Nat)) ∧ W.frozen? ⟨w.heap.size, 0, none⟩ = false) ∧ Below w.heap.size w W)
    (fun _ _ _ => False)
    (OwnFrom.and (Own.from (fun s A B row hs hg hr => ⟨cell_kept hs.1 hg hr, (frozen_kept hs.1 hg hr).trans hs.2⟩) _) (ownFrom_below (Nat.le_refl _) (by omega)))
    (fun _ _ _ _ _ hs _ _ => hs)
    ⟨⟨hc0, hf0⟩, hb⟩
    (fun x => { tmps := #[.slice A l.length cap, .int .i64 k, undef, undef, .int .u64 0, .int .i64 0, .pointer (some ⟨w.heap.size, 0, none⟩), undef, .int .u8 x.2.toNat, .slice A l.length cap, .int .i64 l.length, .int .i64 k, .bool false, .slice A l.length cap, .int .i64 k, .slice A k cap,
      .func (.func 39) #[] #[.pointer (some ⟨w.heap.size + 1, 0, none⟩)], .int .i64 x.1, .int .u8 x.2.toNat, undef, undef, undef, undef, undef, undef], defers := [] }) ?assign ?body ?done ?stop
  case assign =>
    intro r x W K hK
    gi_wp2
    exact hK
  case body =>
    rintro r pre x W ⟨⟨hc, hf⟩, hB⟩ hlen
    have hq := rdN_lt pre
    have hq7 := bound7 hq (by omega)
    have hx := x.2.toNat_lt
    have ho := or64 (rdN pre) x.2.toNat hq7 (by omega)
    rw [← rdN_snoc pre x] at ho
    clear hq
    gi_wp2
    exact ⟨KeepsOthers.setCell _ _ _, ⟨(Below.refl w.heap.size W).setCell (p := ⟨w.heap.size, 0, none⟩) (Nat.le_refl _) _, Below.heap_setCell _ _ _ _ (by simp)⟩, ⟨World.cell?_setCell_same' _ _ _ (by rw [hc]; rfl), by rw [World.frozen?_setCell]; exact hf⟩, hB.setCell (p := ⟨w.heap.size, 0, none⟩) (Nat.le_refl _) _⟩
  case done =>
    rintro D ys W hD rfl ⟨⟨hc, _⟩, hB⟩ hK
    rw [rdN_all] at hc
    gi_wp2
    refine ⟨by simp, .inl ⟨_, _, rfl, run_takeDeferred hK, ?_⟩⟩
    exact ⟨_, results_tmp2 rfl _ _ _, rfl, hB.trans (belowK_b (w := w) (Nat.le_refl _) W D _ _ (by omega) hK rfl rfl)⟩
  case stop =>
    rintro D c pre W _ _ h _
    exact h.elim
theorem cread_short (k : Nat) (A : Option Addr) (cap : Nat) (l : List UInt8) (w : World) (hs : l.length < k) :
    Calls Try.prog 34 #[.slice A l.length cap, .int .i64 k] w fun e w' => e = .returned (.tuple #[.int .u64 0, .int .i64 4]) ∧ w' = w := by
  have hd : decide ((l.length : Int) < (k : Int)) = true := by simp; omega
  go_enter Try.func34, Try.ntmps34
  go_wp2
  go_ret2
  exact ⟨ret_two rfl rfl, rfl⟩
end Go.Proofs.Ytlcnachblcacjaa
