/-
  A region that draws its order, in a round of a range over a function: walked as outside.
-/
import Derived.Test.YtodnojpolkdlmaaRgf
import Derived.Deep.RegionHeld3
import Derived.Deep.DrawnRows
import Derived.TacticsInMore
import Derived.OrdersIn
namespace Go.Proofs.Ytodnojpolkdlmaa
open Go.RowKit

theorem calls_round {m l' : Nat} {P : Program} {f : FuncId} {args : Array Value} {w : World} {R : Ending → World → Prop} (h : Calls P f args w R) : CallsIn (Fence.wide.inRound l') m P f args w R :=
  ⟨trivial, fun cs _ => ((callsIn_wide (n := 0)).2 h).2 cs (room_wide _)⟩
theorem rows_round {m l' : Nat} {P : Program} {row : String} {args : Array Value} {w : World} {R : Value → World → Prop} (h : Rows P row args w R) : RowsIn (Fence.wide.inRound l') m P row args w R :=
  fun c cs _ => let ⟨v, w', r, s⟩ := h c cs; ⟨v, w', r, stepsIn_wide.2 s⟩
theorem roundIn_wide {n m l l' : Nat} {P : Program} {f : FuncId} {tmps : Array Value} {assign body : Code} {w : World} {R : Ending → World → Prop} (h : RoundIn Fence.wide n P l f tmps assign body w R) : RoundIn (Fence.wide.inRound l') m P l f tmps assign body w R :=
  ⟨trivial, fun c cs _ => h.2 c cs (room_wide _)⟩
variable {P : Program} {n l : Nat} {ops : Array Oper} {Q : Exit → Act → World → Prop}
def noDefer (o : Oper) : Bool := match o.op with
  | .defer _ => false
  | _ => true
theorem opIn_of_op {o : Oper} {a : Act} {w : World} {K : Act → World → Prop} (hd : noDefer o = true) (hL : ¬ LetsOut Q) (h : o.wp P a w K Q ∨ (o.asks P a w ∧ LetsOut Q)) : o.wpIn (Fence.wide.inRound l) n P a w K Q := by
  rcases h with h | h
  · refine ⟨fun _ _ => trivial, ?_⟩
    have hs : o.semAt (Fence.wide.inRound l).round a.eval = execOp a.eval o := Oper.semAt_some l a.eval o (fun c e => by unfold noDefer at hd; rw [e] at hd; cases hd)
    rw [hs]
    unfold Oper.wp at h
    generalize (execOp a.eval o).run P w = r at *
    have hdep : (Fence.wide.inRound l).depth.isSome = true → 1 ≤ n := fun h => by cases h
    cases r with
    | ok x w' =>
      cases x with
      | value v => exact h
      | skip => exact h
      | defer d => exact h
      | enter f args => exact ⟨hdep, calls_round h⟩
      | row row args => exact ⟨hdep, rows_round h⟩
      | _ => exact h.elim
    | halt x w' =>
      cases x with
      | panic v => exact h
      | _ => exact h.elim
  · exact absurd h.2 hL
theorem anyIn_of_any (hd : ops.all noDefer = true) (hL : ¬ LetsOut Q) {md : Region.Mode} : ∀ (fuel : Nat) (listed : Array Bool) (a : Act) (w : World), wpAny P md ops Q fuel listed a w → wpAnyIn (Fence.wide.inRound l) n P md ops Q fuel listed a w
  | 0, _, _, _, h => h
  | fuel + 1, listed, a, w, h => ⟨h.1, fun i hi => by
      have h2 := h.2 i hi
      unfold wpOp at h2
      unfold wpOpIn
      cases ho : ops[i]? with
      | none =>
        rw [ho] at h2
        exact anyIn_of_any hd hL fuel _ a w h2
      | some o =>
        rw [ho] at h2
        have hdo : noDefer o = true := by
          obtain ⟨hlt, rfl⟩ := Array.getElem?_eq_some_iff.1 ho
          rw [Array.all_eq_true] at hd
          exact hd i hlt
        dsimp only at h2 ⊢
        split
        · rename_i hw
          rw [if_pos hw] at h2
          exact Oper.wpIn_mono (fun a' w' h' => anyIn_of_any hd hL fuel _ a' w' h') (opIn_of_op hdo hL h2)
        · rename_i hw
          rw [if_neg hw] at h2
          exact ⟨fun _ _ => trivial, anyIn_of_any hd hL fuel _ _ w h2⟩⟩
theorem wpIn_round_held {S : World → Prop} {id : Nat} {a : Act} {w : World} (hm : P.follows .mixedOrders = true) (hd : ops.all noDefer = true) (hL : ¬ LetsOut Q) (hS : S w.drew)
    (h : S w.drew → wpAnyH P .any ops Q S ops.size (Array.replicate ops.size false) a w.drew) : (Code.region id ops true).wpIn (Fence.wide.inRound l) n P Q a w :=
  wpIn_region_any hm (anyIn_of_any hd hL _ _ _ _ (wpAny_of_held _ _ _ _ (h hS)))
theorem listIn_of_list (hL : ¬ LetsOut Q) : ∀ (rest : List Oper) (a : Act) (w : World), rest.all noDefer = true → wpList P ops Q rest a w → wpListIn (Fence.wide.inRound l) n P ops Q rest a w
  | [], _, _, _, h => h
  | o :: rest, a, w, hd, h => by
    rw [List.all_cons, Bool.and_eq_true] at hd
    unfold wpList at h
    unfold wpListIn
    split
    · rename_i hw
      rw [if_pos hw] at h
      exact Oper.wpIn_mono (fun a' w' h' => listIn_of_list hL rest a' w' hd.2 h') (opIn_of_op hd.1 hL h)
    · rename_i hw
      rw [if_neg hw] at h
      exact ⟨fun _ _ => trivial, listIn_of_list hL rest _ w hd.2 h⟩
theorem wpIn_round_list {id : Nat} {a : Act} {w : World} (hd : ops.toList.all noDefer = true) (hL : ¬ LetsOut Q) (h : wpList P ops Q ops.toList a w) : (Code.region id ops false).wpIn (Fence.wide.inRound l) n P Q a w :=
  wpIn_region_list (listIn_of_list hL _ _ _ hd h)
end Go.Proofs.Ytodnojpolkdlmaa
