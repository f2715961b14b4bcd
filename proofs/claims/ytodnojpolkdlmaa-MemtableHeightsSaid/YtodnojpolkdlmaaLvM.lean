/-
  A new table; a small table lives.
-/
import Derived.Test.YtodnojpolkdlmaaTmR
import Derived.Test.YtodnojpolkdlmaaGtC
namespace Go.Proofs.Ytodnojpolkdlmaa
set_option linter.unusedSimpArgs false
set_option linter.unusedVariables false
open Go.RowKit Go.IntWalk
attribute [local go_sem ↓] Go.wp_at_zero Go.wp_at_succ

/-- a table of its own blocks, all new -/
def NewP (w : World) (g : Nat) (how : Int) (hl : List UInt8) (w' : World) : Prop :=
  ∃ F H, Tab w' g how hl emptyS F H ∧ (∀ k ∈ F, w.heap.size ≤ k) ∧ ∀ k ∈ H, w.heap.size ≤ k ∧ k < w'.heap.size
theorem mNew_tab (how : Int) (A : Option Addr) (cap : Nat) (l : List UInt8) (w : World) (hh : how = 0 ∨ how = 1) (hl : l.length ≤ 140737488351232) (hbs : Bs w w.heap.size A l) (hA : A = none → l = [] ∧ cap = 0) (hs : ∀ a, A = some a → a.spot = none) :
    Calls Try.prog 7 #[.int .i64 how, .slice A l.length cap] w fun e w' => ∃ g, e = .returned (.tuple #[.pointer (some ⟨g, 0, none⟩), .int .i64 0]) ∧ Below w.heap.size w w' ∧ NewP w g how l w' := by
  refine (mNew_any how A cap l w hh hl hbs hA hs).mono ?_
  rintro e w' ⟨g, hb, hA', hc, rfl, h1, h2, h3, h4, h5, h6⟩
  have hgl := h6.blk.lt
  refine ⟨g, rfl, h1, [g, hb], (hA'.map (·.block)).toList, ⟨hb, hA', hc, .slice none 0 0, _, _, _, _, [], rfl, rfl, ?_, h6, Own.nil _ _ _ _, h5.more (by omega), ?_, ?_⟩, ?_, ?_⟩
  · simp; omega
  · intro a ha; rw [ha]; simp
  · intro k hk hf
    rcases hA' with _ | a
    · simp at hk
    · have := h4 a rfl
      simp at hk hf
      omega
  · intro k hk
    simp at hk
    omega
  · intro k hk
    rcases hA' with _ | a
    · simp at hk
    · have := h4 a rfl
      simp at hk
      omega
theorem NewP.one {w w' : World} {g : Nat} {how : Int} {hl : List UInt8} (h : NewP w g how hl w') : One w.heap.size w' g how hl emptyS [] := by
  obtain ⟨F, H, h1, h2, h3⟩ := h
  exact ⟨F, H, h1, fun k hk => ⟨h2 k hk, List.not_mem_nil⟩, fun k hk => ⟨(h3 k hk).2, List.not_mem_nil⟩, fun k hk => absurd hk List.not_mem_nil⟩
theorem mAdd_one {B : Nat} {w : World} {g : Nat} {how : Int} {hl : List UInt8} {S : TS} {X : List Nat} (h : One B w g how hl S X) (hB : B ≤ w.heap.size) (hll : hl.length ≤ 1000000000000000) (hok : TOk how S) (seq : Int) (r : Rc) :
    Calls Try.prog 9 #[.pointer (some ⟨g, 0, none⟩), .int .u64 seq, .agg #[.int .u32 r.f, .int .i64 r.k, .string r.key, .string r.v]] w fun e w' => e = .returned (.int .i64 (addS how S seq r).2) ∧ One B w' g how hl (addS how S seq r).1 X ∧ Below B w w' ∧ ∀ k ∈ X, w'.heap[k]? = w.heap[k]? := by
  have h0 := h
  obtain ⟨F, H, h1, h2, h3, h4⟩ := h
  exact (mAdd_any h1 (fun k hk => (h3 k hk).1) hll hok seq r).mono fun e w' ⟨a, b⟩ => ⟨a, h0.add h1 h2 h3 h4 hB b⟩
theorem mGet_one {B : Nat} {w : World} {g : Nat} {how : Int} {hl : List UInt8} {S : TS} {X : List Nat} (h : One B w g how hl S X) (hok : TOk how S) (key : ByteArray) (seq : Int) :
    Calls Try.prog 10 #[.pointer (some ⟨g, 0, none⟩), .string key, .int .u64 seq] w fun e w' => e = .returned (tripV (getS how S key seq)) ∧ Below w.heap.size w w' := by
  obtain ⟨F, H, h1, h2, h3, h4⟩ := h
  exact mGet_any h1 hok key seq
theorem mLen_one {B : Nat} {w : World} {g : Nat} {how : Int} {hl : List UInt8} {S : TS} {X : List Nat} (h : One B w g how hl S X) (hn : S.n ≤ 1000000) :
    Calls Try.prog 15 #[.pointer (some ⟨g, 0, none⟩)] w fun e w' => e = .returned (.int .i64 (S.n : Nat)) ∧ ∃ n, w' = w.drewN n := by
  obtain ⟨F, H, h1, h2, h3, h4⟩ := h
  exact mLen_any h1 hn
theorem mAll_any (g : Nat) (u : ByteArray) (s k : Int) (w : World) : Calls Try.prog 12 #[.pointer (some ⟨g, 0, none⟩), .agg #[.string u, .int .u64 s, .int .i64 k]] w fun e w' =>
    e = .returned (.func (.func 30) #[] #[.pointer (some ⟨w.heap.size, 0, none⟩), .pointer (some ⟨w.heap.size + 1, 0, none⟩)]) ∧ w' = (w.alloc (.cells #[.pointer (some ⟨g, 0, none⟩)] 23)).alloc (.cells #[.string u, .int .u64 s, .int .i64 k] 45) := by
  go_enter Try.func12, Try.ntmps12
  go_wp2_with fail
  go_ret
  exact ⟨rfl, rfl⟩
theorem func_is (f : Fn) (a c : Array Value) (w : World) (d : Nat) : (Op.equalIn (d + 1) 42 (.func f a c) .nilFunc).run Try.prog w = .ok false w := by
  simp [Op.equalIn, run_underlying Try.underlying42]
theorem func_ne (f : Fn) (a c : Array Value) (w : World) : (binOp .neq 42 (.func f a c) .nilFunc).run Try.prog w = .ok (.bool true) w := by
  simp only [binOp]
  simp [Op.equal, Op.maxDepth, func_is f a c w 9999]
theorem func_eq (f : Fn) (a c : Array Value) (w : World) : (binOp .eql 42 (.func f a c) .nilFunc).run Try.prog w = .ok (.bool false) w := by
  simp only [binOp]
  simp [Op.equal, Op.maxDepth, func_is f a c w 9999]
def rA : Rc := ⟨0, 1, ⟨#[97]⟩, ⟨#[120]⟩⟩
def rB : Rc := ⟨0, 2, ⟨#[97]⟩, ⟨#[99]⟩⟩
def liveA : TS := (addS 0 emptyS 1 rA).1
def liveB : TS := (addS 0 liveA 2 rB).1
theorem live1 : (addS 0 emptyS 1 rA).2 = 0 := by decide +kernel
theorem live2 : (addS 0 liveA 2 rB).2 = 0 := by decide +kernel
theorem live3 : getS 0 liveB ⟨#[97]⟩ 9 = (⟨#[]⟩, 2, true) := by decide +kernel
theorem live4 : getS 0 liveB ⟨#[97]⟩ 1 = (⟨#[120]⟩, 1, true) := by decide +kernel
theorem live5 : liveB.n = 2 := by decide +kernel
set_option maxHeartbeats 2000000 in
set_option maxRecDepth 100000 in
theorem lives07_any (w : World) : Calls Try.prog 8 #[] w fun e w' => e = .returned (.bool true) ∧ Below w.heap.size w w' := by
  have hN := mNew_tab 0 none 0 [] w (.inl rfl) (by decide) Rd.nil (fun _ => ⟨rfl, rfl⟩) (fun a h => by cases h)
  have HN := Lib.hid hN
  clear hN
  go_enter Try.func8, Try.ntmps8
  go_wp2_with fail
  refine HN.out.mono ?_
  rintro e w1 ⟨g, rfl, hb1, hn1⟩
  have HO1 := Lib.hid hn1.one
  have HB1 := Lib.hid hb1
  clear hb1 hn1 HN
  go_wp2_with fail
  have hA1 := mAdd_one HO1.out HB1.out.size (by decide) (TOk.empty 0) 1 rA
  rw [live1] at hA1
  refine hA1.mono ?_
  clear hA1
  rintro e w2 ⟨rfl, ho2, hb2, -⟩
  have HO2 : Hid (One w.heap.size w2 g 0 [] liveA []) := ho2
  have HB2 := Lib.hid (HB1.out.trans hb2)
  clear ho2 hb2
  go_wp2_with fail
  have hA2 := mAdd_one HO2.out HB2.out.size (by decide) ((TOk.empty 0).add 1 rA) 2 rB
  rw [live2] at hA2
  refine hA2.mono ?_
  clear hA2
  rintro e w3 ⟨rfl, ho3, hb3, -⟩
  have HO3 : Hid (One w.heap.size w3 g 0 [] liveB []) := ho3
  have HB3 := Lib.hid (HB2.out.trans hb3)
  have HK3 : Hid (TOk 0 liveB) := ((TOk.empty 0).add 1 rA).add 2 rB
  clear ho3 hb3
  go_wp2_with fail
  have hG1 := mGet_one HO3.out HK3.out ⟨#[97]⟩ 9
  rw [live3] at hG1
  refine hG1.mono ?_
  clear hG1
  rintro e w4 ⟨rfl, hb4⟩
  have HO4 := Lib.hid (HO3.out.below hb4)
  have HB4 := Lib.hid (HB3.out.trans (hb4.mono HB3.out.size))
  clear hb4
  unfold tripV
  go_wp2_with fail
  have hG2 := mGet_one HO4.out HK3.out ⟨#[97]⟩ 1
  rw [live4] at hG2
  refine hG2.mono ?_
  clear hG2
  rintro e w5 ⟨rfl, hb5⟩
  have HO5 := Lib.hid (HO4.out.below hb5)
  have HB5 := Lib.hid (HB4.out.trans (hb5.mono HB4.out.size))
  clear hb5
  unfold tripV
  go_wp2_with fail
  refine (mAll_any g ⟨#[]⟩ 0 0 w5).mono ?_
  rintro e w6 ⟨rfl, hw6⟩
  have hb6 : Below w5.heap.size w5 w6 := by rw [hw6]; exact ((Below.refl _ _).alloc (Nat.le_refl _) _).alloc (by simp) _
  have HO6 := Lib.hid (HO5.out.below hb6)
  have HB6 := Lib.hid (HB5.out.trans (hb6.mono HB5.out.size))
  clear hb6 hw6
  have hfn := func_ne (.func 30) #[] #[.pointer (some ⟨w5.heap.size, 0, none⟩), .pointer (some ⟨w5.heap.size + 1, 0, none⟩)] w6
  go_wp2_with fail
  have hL := mLen_one HO6.out (by rw [live5]; decide)
  rw [live5] at hL
  refine hL.mono ?_
  rintro e w7 ⟨rfl, nq, rfl⟩
  go_wp2_with fail
  go_ret
  exact ⟨ret_bool (by decide), below_drewN HB6.out _⟩
end Go.Proofs.Ytodnojpolkdlmaa
