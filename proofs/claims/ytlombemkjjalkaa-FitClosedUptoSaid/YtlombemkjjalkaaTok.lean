/- Tokens: how they lie in memory; which are right (flat.Right, mark.Right and the references'). -/
import Derived.Test.YtlombemkjjalkaaBase
import Derived.Test.YtlombemkjjalkaaProg
import Derived.Laws.Shifts
import Derived.Laws.BitsAll
namespace Go.Proofs.Ytlombemkjjalkaa
open Go.RowKit
set_option linter.unusedVariables false
set_option linter.unusedSimpArgs false

structure Tok where
  k : Int
  t : Int
  n : Int
  m : Int
deriving DecidableEq
abbrev Tok.cs (x : Tok) : List Value := [.int .i64 x.k, .int .i64 x.t, .int .i64 x.n, .int .i64 x.m]
abbrev Tok.val (x : Tok) : Value := .agg #[.int .i64 x.k, .int .i64 x.t, .int .i64 x.n, .int .i64 x.m]
def tokR : Rp Tok where
  sz := 4
  rep := fun _ _ x cs => cs = x.cs
  len := fun h => by rw [h]; rfl
  one := fun h u hu => by
    rw [h] at hu
    simp [Tok.cs] at hu
    rcases hu with rfl | rfl | rfl | rfl <;> rfl
  move := fun _ h => h

/-- A token of a row that is read. -/
theorem tok_at {w : World} {F : Nat → Prop} {A : Option Addr} {xs : List Tok} (h : tokR.row w F A xs) {j : Nat} {x : Tok} (hx : xs[j]? = some x) :
    ∃ b o, A = some ⟨b, o, none⟩ ∧ F b ∧ b < w.heap.size ∧ w.cell? ⟨b, o + j * 4, none⟩ = some (.int .i64 x.k) ∧ w.cell? ⟨b, o + j * 4 + 1, none⟩ = some (.int .i64 x.t) ∧ w.cell? ⟨b, o + j * 4 + 2, none⟩ = some (.int .i64 x.n) ∧ w.cell? ⟨b, o + j * 4 + 3, none⟩ = some (.int .i64 x.m) := by
  obtain ⟨b, o, cs, hA, hF, hb, hr, hc⟩ := Rp.row_at h hx
  have hr' : cs = x.cs := hr
  subst hr'
  exact ⟨b, o, hA, hF, hb, hc 0 _ rfl, hc 1 _ rfl, hc 2 _ rfl, hc 3 _ rfl⟩

theorem tok_info : (Try.prog.info? 33).map (fun i => (i.zero, i.size, i.bytes)) = some (some (.agg #[.int .i64 0, .int .i64 0, .int .i64 0, .int .i64 0]), 4, 32) := by kernel_rfl

theorem ret_bool {a b : Bool} (h : a = b) : Ending.returned (.bool a) = .returned (.bool b) := by rw [h]

def MarkP (s : Int) : Prop := 0 ≤ s ∧ s ≤ 4
instance (s : Int) : Decidable (MarkP s) := by unfold MarkP; infer_instance
def PointP (n : Int) : Prop := 0 ≤ n ∧ n ≤ 1114111 ∧ n / 2048 ≠ 27
instance (n : Int) : Decidable (PointP n) := by unfold PointP; infer_instance
/-- A token that is one. -/
def RightP (x : Tok) : Prop :=
  (x.k = 0 ∧ x.t = 0 ∧ PointP x.n ∧ MarkP x.m) ∨ (x.k = 2 ∧ x.t = 0 ∧ x.n = 0 ∧ x.m = 0) ∨ ((x.k = 1 ∨ x.k = 3) ∧ 0 < x.t ∧ x.t < 16 ∧ 0 ≤ x.n ∧ x.n < 16 ∧ x.m = 0)
instance (x : Tok) : Decidable (RightP x) := by unfold RightP; infer_instance
def markB (s : Int) : Bool := decide (MarkP s)
def pointB (n : Int) : Bool := decide (PointP n)
def rightB (x : Tok) : Bool := decide (RightP x)

set_option maxRecDepth 100000 in
set_option maxHeartbeats 4000000 in
theorem markRight_calls (s : Int) (w : World) : Calls Try.prog 25 #[.int .i64 s] w fun e w' => e = .returned (.bool (markB s)) ∧ w = w' := by
  go_enter Try.func25, Try.ntmps25
  go_wp2
  all_goals go_ret
  all_goals exact ⟨ret_bool (by rw [Bool.eq_iff_iff]; (try simp only [markB, decide_eq_true_eq, Bool.and_eq_true, Bool.or_eq_true, Bool.not_eq_true', Bool.not_eq_eq_eq_not, Bool.not_true, Bool.not_false, beq_iff_eq, bne_iff_ne, beq_eq_false_iff_ne, bne_eq_false_iff_eq, decide_eq_false_iff_not, Bool.false_eq_true, Bool.true_eq_false, ne_eq, iff_true, true_iff, iff_false, false_iff, eq_self_iff_true, Bool.and_true, Bool.true_and, Bool.and_false, Bool.false_and, Bool.or_true, Bool.true_or, Bool.or_false, Bool.false_or] at *); all_goals (try simp only [MarkP, decide_eq_true_eq, Bool.and_eq_true, Bool.or_eq_true, Bool.not_eq_true', Bool.not_eq_eq_eq_not, Bool.not_true, Bool.not_false, beq_iff_eq, bne_iff_ne, beq_eq_false_iff_ne, bne_eq_false_iff_eq, decide_eq_false_iff_not, Bool.false_eq_true, Bool.true_eq_false, ne_eq, iff_true, true_iff, iff_false, false_iff, eq_self_iff_true, Bool.and_true, Bool.true_and, Bool.and_false, Bool.false_and, Bool.or_true, Bool.true_or, Bool.or_false, Bool.false_or] at *); all_goals omega), rfl⟩

set_option maxRecDepth 100000 in
set_option maxHeartbeats 4000000 in
theorem markRight3_calls (s : Int) (w : World) : Calls Try.prog 29 #[.int .i64 s] w fun e w' => e = .returned (.bool (markB s)) ∧ w = w' := by
  go_enter Try.func29, Try.ntmps29
  go_wp2
  all_goals go_ret
  all_goals exact ⟨ret_bool (by rw [Bool.eq_iff_iff]; (try simp only [markB, decide_eq_true_eq, Bool.and_eq_true, Bool.or_eq_true, Bool.not_eq_true', Bool.not_eq_eq_eq_not, Bool.not_true, Bool.not_false, beq_iff_eq, bne_iff_ne, beq_eq_false_iff_ne, bne_eq_false_iff_eq, decide_eq_false_iff_not, Bool.false_eq_true, Bool.true_eq_false, ne_eq, iff_true, true_iff, iff_false, false_iff, eq_self_iff_true, Bool.and_true, Bool.true_and, Bool.and_false, Bool.false_and, Bool.or_true, Bool.true_or, Bool.or_false, Bool.false_or] at *); all_goals (try simp only [MarkP, decide_eq_true_eq, Bool.and_eq_true, Bool.or_eq_true, Bool.not_eq_true', Bool.not_eq_eq_eq_not, Bool.not_true, Bool.not_false, beq_iff_eq, bne_iff_ne, beq_eq_false_iff_ne, bne_eq_false_iff_eq, decide_eq_false_iff_not, Bool.false_eq_true, Bool.true_eq_false, ne_eq, iff_true, true_iff, iff_false, false_iff, eq_self_iff_true, Bool.and_true, Bool.true_and, Bool.and_false, Bool.false_and, Bool.or_true, Bool.true_or, Bool.or_false, Bool.false_or] at *); all_goals omega), rfl⟩

set_option maxRecDepth 100000 in
set_option maxHeartbeats 4000000 in
theorem point_calls (n : Int) (w : World) : Calls Try.prog 28 #[.int .i64 n] w fun e w' => e = .returned (.bool (pointB n)) ∧ w = w' := by
  go_enter Try.func28, Try.ntmps28
  go_wp2
  all_goals go_ret
  all_goals exact ⟨ret_bool (by rw [Bool.eq_iff_iff]; (try simp only [pointB, decide_eq_true_eq, Bool.and_eq_true, Bool.or_eq_true, Bool.not_eq_true', Bool.not_eq_eq_eq_not, Bool.not_true, Bool.not_false, beq_iff_eq, bne_iff_ne, beq_eq_false_iff_ne, bne_eq_false_iff_eq, decide_eq_false_iff_not, Bool.false_eq_true, Bool.true_eq_false, ne_eq, iff_true, true_iff, iff_false, false_iff, eq_self_iff_true, Bool.and_true, Bool.true_and, Bool.and_false, Bool.false_and, Bool.or_true, Bool.true_or, Bool.or_false, Bool.false_or] at *); all_goals (try simp only [PointP, decide_eq_true_eq, Bool.and_eq_true, Bool.or_eq_true, Bool.not_eq_true', Bool.not_eq_eq_eq_not, Bool.not_true, Bool.not_false, beq_iff_eq, bne_iff_ne, beq_eq_false_iff_ne, bne_eq_false_iff_eq, decide_eq_false_iff_not, Bool.false_eq_true, Bool.true_eq_false, ne_eq, iff_true, true_iff, iff_false, false_iff, eq_self_iff_true, Bool.and_true, Bool.true_and, Bool.and_false, Bool.false_and, Bool.or_true, Bool.true_or, Bool.or_false, Bool.false_or] at *); all_goals omega), rfl⟩

set_option maxRecDepth 100000 in
set_option maxHeartbeats 4000000 in
theorem flatRight_calls (x : Tok) (w : World) : Calls Try.prog 15 #[x.val] w fun e w' => e = .returned (.bool (rightB x)) ∧ Pure w w' := by
  go_enter Try.func15, Try.ntmps15
  go_wp2_with (go_at_call 25; refine (markRight_calls _ _).mono ?_; rintro e w1 ⟨rfl, rfl⟩)
  all_goals go_ret
  all_goals exact ⟨ret_bool (by rw [Bool.eq_iff_iff]; (try simp only [rightB, markB, decide_eq_true_eq, Bool.and_eq_true, Bool.or_eq_true, Bool.not_eq_true', Bool.not_eq_eq_eq_not, Bool.not_true, Bool.not_false, beq_iff_eq, bne_iff_ne, beq_eq_false_iff_ne, bne_eq_false_iff_eq, decide_eq_false_iff_not, Bool.false_eq_true, Bool.true_eq_false, ne_eq, iff_true, true_iff, iff_false, false_iff, eq_self_iff_true, Bool.and_true, Bool.true_and, Bool.and_false, Bool.false_and, Bool.or_true, Bool.true_or, Bool.or_false, Bool.false_or] at *); all_goals (try simp only [RightP, MarkP, PointP, decide_eq_true_eq, Bool.and_eq_true, Bool.or_eq_true, Bool.not_eq_true', Bool.not_eq_eq_eq_not, Bool.not_true, Bool.not_false, beq_iff_eq, bne_iff_ne, beq_eq_false_iff_ne, bne_eq_false_iff_eq, decide_eq_false_iff_not, Bool.false_eq_true, Bool.true_eq_false, ne_eq, iff_true, true_iff, iff_false, false_iff, eq_self_iff_true, Bool.and_true, Bool.true_and, Bool.and_false, Bool.false_and, Bool.or_true, Bool.true_or, Bool.or_false, Bool.false_or] at *); all_goals omega), (Upd.refl _ _).alloc _⟩

set_option maxRecDepth 100000 in
set_option maxHeartbeats 4000000 in
theorem flatRight4_calls (x : Tok) (w : World) : Calls Try.prog 23 #[x.val] w fun e w' => e = .returned (.bool (rightB x)) ∧ Pure w w' := by
  go_enter Try.func23, Try.ntmps23
  go_wp2_with (first | (go_at_call 29; refine (markRight3_calls _ _).mono ?_; rintro e w1 ⟨rfl, rfl⟩) | (go_at_call 28; refine (point_calls _ _).mono ?_; rintro e w1 ⟨rfl, rfl⟩))
  all_goals go_ret
  all_goals exact ⟨ret_bool (by rw [Bool.eq_iff_iff]; (try simp only [rightB, markB, pointB, decide_eq_true_eq, Bool.and_eq_true, Bool.or_eq_true, Bool.not_eq_true', Bool.not_eq_eq_eq_not, Bool.not_true, Bool.not_false, beq_iff_eq, bne_iff_ne, beq_eq_false_iff_ne, bne_eq_false_iff_eq, decide_eq_false_iff_not, Bool.false_eq_true, Bool.true_eq_false, ne_eq, iff_true, true_iff, iff_false, false_iff, eq_self_iff_true, Bool.and_true, Bool.true_and, Bool.and_false, Bool.false_and, Bool.or_true, Bool.true_or, Bool.or_false, Bool.false_or] at *); all_goals (try simp only [RightP, MarkP, PointP, decide_eq_true_eq, Bool.and_eq_true, Bool.or_eq_true, Bool.not_eq_true', Bool.not_eq_eq_eq_not, Bool.not_true, Bool.not_false, beq_iff_eq, bne_iff_ne, beq_eq_false_iff_ne, bne_eq_false_iff_eq, decide_eq_false_iff_not, Bool.false_eq_true, Bool.true_eq_false, ne_eq, iff_true, true_iff, iff_false, false_iff, eq_self_iff_true, Bool.and_true, Bool.true_and, Bool.and_false, Bool.false_and, Bool.or_true, Bool.true_or, Bool.or_false, Bool.false_or] at *); all_goals omega), (Upd.refl _ _).alloc _⟩
theorem flatRight_is {x : Tok} {b : Bool} (h : rightB x = b) (w : World) : Calls Try.prog 15 #[x.val] w fun e w' => e = .returned (.bool b) ∧ Pure w w' := h ▸ flatRight_calls x w
theorem flatRight4_is {x : Tok} {b : Bool} (h : rightB x = b) (w : World) : Calls Try.prog 23 #[x.val] w fun e w' => e = .returned (.bool b) ∧ Pure w w' := h ▸ flatRight4_calls x w
end Go.Proofs.Ytlombemkjjalkaa
