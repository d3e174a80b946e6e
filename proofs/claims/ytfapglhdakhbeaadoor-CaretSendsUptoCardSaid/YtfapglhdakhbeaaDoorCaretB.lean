/- caret.may, Text. -/
import Derived.Test.YtfapglhdakhbeaaDoorCaretP
namespace Go.Proofs.YtfapglhdakhbeaaDoor
open Go.RowKit
set_option linter.unusedVariables false
set_option linter.unusedSimpArgs false

def cmayV (l : List Tok) (p : Int) : Int := if (houseCheck l).2 ≠ 0 then (houseCheck l).2 else if p < 0 ∨ (l.length : Int) < p then 1 else 0
set_option maxRecDepth 100000 in
set_option maxHeartbeats 4000000 in
theorem cmay_calls {w : World} {cb : Nat} {F : Nat → Prop} {A : Option Addr} {c : Nat} {l : List Tok} {p : Int} (h : SchR w cb houseRules houseGroups) (hr : tokR.row w F A l) (hb : l.length ≤ 200) :
    Calls Tryd.prog 16 #[.pointer (some ⟨cb, 0, none⟩), .slice A l.length c, .int .i64 p] w fun r w' => r = .returned (.int .i64 (cmayV l p)) ∧ Pure w w' := by
  have HCK := As.mk (house_check (c := c) h hr (by omega))
  have HV := As.mk (show cmayV l p = if (houseCheck l).2 ≠ 0 then (houseCheck l).2 else if p < 0 ∨ (l.length : Int) < p then 1 else 0 from rfl)
  clear h hr
  generalize cmayV l p = cv at *
  generalize houseCheck l = ck at *
  obtain ⟨f1, f2⟩ := ck
  cases b1 : decide (f2 = 0) <;> cases b2 : decide (p < 0) <;> cases b3 : decide ((l.length : Int) < p)
  all_goals
    have c1 : (f2 != 0) = !decide (f2 = 0) := rfl
    rw [b1] at c1
    simp only [Bool.not_false, Bool.not_true] at c1
    have c3 : decide (p > (l.length : Int)) = decide ((l.length : Int) < p) := rfl
    rw [b3] at c3
    have B1 := As.mk b1
    have B2 := As.mk b2
    have B3 := As.mk b3
    clear b1
    go_enter Tryd.func16, Tryd.ntmps16
    go_wp2_with (go_at_call 21; refine HCK.out.mono ?_; rintro r w1 ⟨rfl, hu⟩; have HU1 := As.mk hu; clear hu)
    go_ret
    refine ⟨?_, HU1.out⟩
    have e1 := B1.out
    have e2 := B2.out
    have e3 := B3.out
    simp only [decide_eq_true_eq, decide_eq_false_iff_not] at e1 e2 e3
    rw [HV.out]
    simp [e1, e2, e3]
theorem cmay_zero {l : List Tok} {p : Int} (h : cmayV l p = 0) : (houseCheck l).2 = 0 ∧ 0 ≤ p ∧ p ≤ (l.length : Int) := by
  unfold cmayV at h
  split at h
  · rename_i h1
    exact absurd h h1
  · rename_i h1
    split at h
    · cases h
    · exact ⟨by omega, by omega, by omega⟩
end Go.Proofs.YtfapglhdakhbeaaDoor
