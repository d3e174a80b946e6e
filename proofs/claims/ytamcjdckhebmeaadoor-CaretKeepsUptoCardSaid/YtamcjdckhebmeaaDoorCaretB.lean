/- caret.may, Text. -/
import Derived.Test.YtamcjdckhebmeaaDoorCaretP
namespace Go.Proofs.YtamcjdckhebmeaaDoor
open Go.RowKit
set_option linter.unusedVariables false
set_option linter.unusedSimpArgs false

def cmayV (l : List Tok) (p : Int) : Int := if (houseCheck l).2 ≠ 0 then (houseCheck l).2 else if p < 0 ∨ (l.length : Int) < p then 1 else 0
set_option maxRecDepth 100000 in
set_option maxHeartbeats 4000000 in
theorem cmay_calls {w : World} {cb : Nat} {F : Nat → Prop} {A : Option Addr} {c : Nat} {l : List Tok} {p : Int} (h : SchR w cb houseRules houseGroups) (hr : tokR.row w F A l) (hb : l.length ≤ 200) :
    Calls Tryd.prog 14 #[.pointer (some ⟨cb, 0, none⟩), .slice A l.length c, .int .i64 p] w fun r w' => r = .returned (.int .i64 (cmayV l p)) ∧ Pure w w' := by
  have HCK := As.mk (house_check (c := c) h hr (by omega))
  have HV := As.mk (show cmayV l p = if (houseCheck l).2 ≠ 0 then (houseCheck l).2 else if p < 0 ∨ (l.length : Int) < p then 1 else 0 from rfl)
  clear h hr
  generalize cmayV l p = cv at *
  generalize houseCheck l = ck at *
  obtain ⟨f1, f2⟩ := ck
  cases b1 : decide (f2 = 0) <;> cases b2 : decide (p < 0) <;> cases b3 : decide ((l.length : Int) < p)
  all_goals
    have c1 : (f2 != 0) = !decide (f2 = 0) := rfl
    rw [b1] at c1
    simp only [Bool.not_false, Bool.not_true] at c1
    have c3 : decide (p > (l.length : Int)) = decide ((l.length : Int) < p) := rfl
    rw [b3] at c3
    have B1 := As.mk b1
    have B2 := As.mk b2
    have B3 := As.mk b3
    clear b1
    go_enter Tryd.func14, Tryd.ntmps14
    go_wp2_with (go_at_call 26; refine HCK.out.mono ?_; rintro r w1 ⟨rfl, hu⟩; have HU1 := As.mk hu; clear hu)
    go_ret
    refine ⟨?_, HU1.out⟩
    have e1 := B1.out
    have e2 := B2.out
    have e3 := B3.out
    simp only [decide_eq_true_eq, decide_eq_false_iff_not] at e1 e2 e3
    rw [HV.out]
    simp [e1, e2, e3]
def textV (l : List Tok) (p : Int) : Bool × Int := if cmayV l p ≠ 0 then (false, cmayV l p) else (mayF l p, 0)
theorem cmay_zero {l : List Tok} {p : Int} (h : cmayV l p = 0) : (houseCheck l).2 = 0 ∧ 0 ≤ p ∧ p ≤ (l.length : Int) := by
  unfold cmayV at h
  split at h
  · rename_i h1
    exact absurd h h1
  · rename_i h1
    split at h
    · cases h
    · exact ⟨by omega, by omega, by omega⟩
set_option maxRecDepth 100000 in
set_option maxHeartbeats 4000000 in
theorem ctext_calls {w : World} {cb : Nat} {F : Nat → Prop} {A : Option Addr} {c : Nat} {l : List Tok} {p : Int} (h : SchR w cb houseRules houseGroups) (hr : tokR.row w F A l) (hb : l.length ≤ 200) (hlc : l.length ≤ c) :
    Calls Tryd.prog 9 #[.pointer (some ⟨cb, 0, none⟩), .slice A l.length c, .int .i64 p] w fun r w' => r = .returned (.tuple #[.bool (textV l p).1, .int .i64 (textV l p).2]) ∧ Pure w w' := by
  have HM := As.mk (cmay_calls (c := c) (p := p) h hr hb)
  by_cases h0 : cmayV l p = 0
  · have HT := As.mk (fun (W : World) (hu : Pure w W) => may_text (h.pure hu) (Rp.row_pure hr hu) hb hlc (cmay_zero h0).1 p)
    rw [h0] at HM
    have hv : textV l p = (mayF l p, 0) := by unfold textV; rw [if_neg (by omega)]
    rw [hv]
    clear h hr h0 hv
    generalize mayF l p = mf at *
    go_enter Tryd.func9, Tryd.ntmps9
    go_wp2_with (first | (go_at_call 16; refine (HT.out w1 HU1.out).mono ?_; rintro r w2 ⟨rfl, hu⟩; have HU2 := As.mk (HU1.out.trans hu (fun _ _ h => h)); clear hu) | (go_at_call 14; refine HM.out.mono ?_; rintro r w1 ⟨rfl, hu⟩; have HU1 := As.mk hu; clear hu))
    exact bodyPost_ret (v := .tuple #[.bool mf, .int .i64 0]) (by simp [results, Tryd.results9, go_sem]) rfl ⟨rfl, HU2.out⟩
  · have hv : textV l p = (false, cmayV l p) := by unfold textV; rw [if_pos h0]
    rw [hv]
    have c1 : (cmayV l p != 0) = true := by simpa using h0
    clear h hr h0 hv
    generalize cmayV l p = cv at *
    go_enter Tryd.func9, Tryd.ntmps9
    go_wp2_with (go_at_call 14; refine HM.out.mono ?_; rintro r w1 ⟨rfl, hu⟩; have HU1 := As.mk hu; clear hu)
    exact bodyPost_ret (v := .tuple #[.bool false, .int .i64 cv]) (by simp [results, Tryd.results9, go_sem]) rfl ⟨rfl, HU1.out⟩
end Go.Proofs.YtamcjdckhebmeaaDoor
