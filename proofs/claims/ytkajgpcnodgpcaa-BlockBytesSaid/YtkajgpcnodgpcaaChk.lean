/-
  The walks of Check, the program's and the document's.
-/
import Derived.Test.YtkajgpcnodgpcaaCodB
import Derived.Test.YtkajgpcnodgpcaaMem
namespace Go.Proofs.Ytkajgpcnodgpcaa
open Go.RowKit

set_option maxHeartbeats 400000 in
theorem cCheck_any (u : ByteArray) (s k : Int) (w : World) :
    Calls Try.prog 75 #[.agg #[.string u, .int .u64 s, .int .i64 k]] w fun e w' => e = .returned (.int .i64 (chkK ⟨u, s, k⟩)) ∧ Below w.heap.size w w' := by
  go_enter Try.func75, Try.ntmps75
  go_wp2
  all_goals go_ret
  all_goals refine ⟨ret_int ?_, (Below.refl _ _).alloc (Nat.le_refl _) _⟩
  all_goals go_light
  all_goals unfold chkK
  all_goals dsimp only
  all_goals first | rw [if_pos (by omega)] | (rw [if_neg (by omega)]; first | rw [if_pos (by omega)] | rw [if_neg (by omega)])
set_option maxHeartbeats 400000 in
theorem rCheck_any (u : ByteArray) (s k : Int) (w : World) :
    Calls Try.prog 30 #[.agg #[.string u, .int .u64 s, .int .i64 k]] w fun e w' => e = .returned (.int .i64 (chkK ⟨u, s, k⟩)) ∧ Below w.heap.size w w' := by
  go_enter Try.func30, Try.ntmps30
  go_wp2
  all_goals go_ret
  all_goals refine ⟨ret_int ?_, (Below.refl _ _).alloc (Nat.le_refl _) _⟩
  all_goals go_light
  all_goals unfold chkK
  all_goals dsimp only
  all_goals first | rw [if_pos (by omega)] | (rw [if_neg (by omega)]; first | rw [if_pos (by omega)] | rw [if_neg (by omega)])

end Go.Proofs.Ytkajgpcnodgpcaa
