/- mark.Right, flat.Right. -/
import Derived.Test.YteeindicpbcjaaaGreatDoorTokR
namespace Go.Proofs.YteeindicpbcjaaaGreatDoor
open Go.RowKit
set_option linter.unusedVariables false
set_option linter.unusedSimpArgs false

set_option maxRecDepth 100000 in
set_option maxHeartbeats 4000000 in
theorem markRight_calls (s : Int) (w : World) : Calls Tryz.prog 73 #[.int .i64 s] w fun e w' => e = .returned (.bool (markB s)) ∧ w = w' := by
  go_enter Tryz.func73, Tryz.ntmps73
  go_wp2
  all_goals go_ret
  all_goals exact ⟨ret_bool (by rw [Bool.eq_iff_iff]; (try simp only [markB, decide_eq_true_eq, Bool.and_eq_true, Bool.or_eq_true, Bool.not_eq_true', Bool.not_eq_eq_eq_not, Bool.not_true, Bool.not_false, beq_iff_eq, bne_iff_ne, beq_eq_false_iff_ne, bne_eq_false_iff_eq, decide_eq_false_iff_not, Bool.false_eq_true, Bool.true_eq_false, ne_eq, iff_true, true_iff, iff_false, false_iff, eq_self_iff_true, Bool.and_true, Bool.true_and, Bool.and_false, Bool.false_and, Bool.or_true, Bool.true_or, Bool.or_false, Bool.false_or] at *); all_goals (try simp only [MarkP, decide_eq_true_eq, Bool.and_eq_true, Bool.or_eq_true, Bool.not_eq_true', Bool.not_eq_eq_eq_not, Bool.not_true, Bool.not_false, beq_iff_eq, bne_iff_ne, beq_eq_false_iff_ne, bne_eq_false_iff_eq, decide_eq_false_iff_not, Bool.false_eq_true, Bool.true_eq_false, ne_eq, iff_true, true_iff, iff_false, false_iff, eq_self_iff_true, Bool.and_true, Bool.true_and, Bool.and_false, Bool.false_and, Bool.or_true, Bool.true_or, Bool.or_false, Bool.false_or] at *); all_goals omega), rfl⟩

set_option maxRecDepth 100000 in
set_option maxHeartbeats 4000000 in
theorem flatRight_calls (x : Tok) (w : World) : Calls Tryz.prog 44 #[x.val] w fun e w' => e = .returned (.bool (rightB x)) ∧ Pure w w' := by
  go_enter Tryz.func44, Tryz.ntmps44
  go_wp2_with (go_at_call 73; refine (markRight_calls _ _).mono ?_; rintro e w1 ⟨rfl, rfl⟩)
  all_goals go_ret
  all_goals exact ⟨ret_bool (by rw [Bool.eq_iff_iff]; (try simp only [rightB, markB, decide_eq_true_eq, Bool.and_eq_true, Bool.or_eq_true, Bool.not_eq_true', Bool.not_eq_eq_eq_not, Bool.not_true, Bool.not_false, beq_iff_eq, bne_iff_ne, beq_eq_false_iff_ne, bne_eq_false_iff_eq, decide_eq_false_iff_not, Bool.false_eq_true, Bool.true_eq_false, ne_eq, iff_true, true_iff, iff_false, false_iff, eq_self_iff_true, Bool.and_true, Bool.true_and, Bool.and_false, Bool.false_and, Bool.or_true, Bool.true_or, Bool.or_false, Bool.false_or] at *); all_goals (try simp only [RightP, MarkP, PointP, decide_eq_true_eq, Bool.and_eq_true, Bool.or_eq_true, Bool.not_eq_true', Bool.not_eq_eq_eq_not, Bool.not_true, Bool.not_false, beq_iff_eq, bne_iff_ne, beq_eq_false_iff_ne, bne_eq_false_iff_eq, decide_eq_false_iff_not, Bool.false_eq_true, Bool.true_eq_false, ne_eq, iff_true, true_iff, iff_false, false_iff, eq_self_iff_true, Bool.and_true, Bool.true_and, Bool.and_false, Bool.false_and, Bool.or_true, Bool.true_or, Bool.or_false, Bool.false_or] at *); all_goals omega), (Upd.refl _ _).alloc _⟩

theorem flatRight_is {x : Tok} {b : Bool} (h : rightB x = b) (w : World) : Calls Tryz.prog 44 #[x.val] w fun e w' => e = .returned (.bool b) ∧ Pure w w' := h ▸ flatRight_calls x w
end Go.Proofs.YteeindicpbcjaaaGreatDoor
