/- caret.Near; awake of layer 11. -/
import Derived.Test.YtfapglhdakhbeaaDoorCaretF
import Derived.Test.YtfapglhdakhbeaaDoorCaretB
namespace Go.Proofs.YtfapglhdakhbeaaDoor
open Go.RowKit
set_option linter.unusedVariables false
set_option linter.unusedSimpArgs false

def nearR (l : List Tok) (p side : Int) : Int × Int := if cmayV l p ≠ 0 then (0, cmayV l p) else nearV l p side
def nearB (b1 b2 b3 b4 : Bool) (x y : Int) : Int × Int := if b1 = true then (0, 6) else if (b2 || (b3 && b4)) = true then (x, 0) else (y, 0)
set_option maxRecDepth 100000 in
set_option maxHeartbeats 4000000 in
theorem near_calls {w : World} {cb : Nat} {F : Nat → Prop} {A : Option Addr} {c : Nat} {l : List Tok} {p side : Int} (h : SchR w cb houseRules houseGroups) (hr : tokR.row w F A l) (hb : l.length ≤ 200) (hlc : l.length ≤ c) :
    Calls Tryd.prog 9 #[.pointer (some ⟨cb, 0, none⟩), .slice A l.length c, .int .i64 p, .int .i64 side] w fun r w' => r = .returned (.tuple #[.int .i64 (nearR l p side).1, .int .i64 (nearR l p side).2]) ∧ Pure w w' := by
  have HM := As.mk (cmay_calls (c := c) (p := p) h hr hb)
  by_cases h0 : cmayV l p = 0
  · obtain ⟨ok, hp⟩ := cmay_zero h0
    have HF := As.mk (fun (W : World) (hu : Pure w W) (s : Int) (hs : s = 1 ∨ s = -1) => first_calls (h.pure hu) (Rp.row_pure hr hu) hb hlc ok hs hp)
    rw [h0] at HM
    have HV := As.mk (show nearR l p side = nearB (decide (min (firstV l (-1) p).2 (firstV l 1 p).2 > (l.length : Int))) (decide ((firstV l (-1) p).2 < (firstV l 1 p).2)) (decide ((firstV l (-1) p).2 = (firstV l 1 p).2)) (decide (side < 0)) (firstV l (-1) p).1 (firstV l 1 p).1 by
      unfold nearR nearV nearB
      rw [if_neg (by omega)]
      simp only [decide_eq_true_eq, Bool.or_eq_true, Bool.and_eq_true])
    have HFL := As.mk (fun (W : World) (hu : Pure w W) => HF.out W hu (-1) (.inr rfl))
    have HFR := As.mk (fun (W : World) (hu : Pure w W) => HF.out W hu 1 (.inl rfl))
    clear h hr h0 HF ok hp
    generalize firstV l (-1) p = x at *
    generalize firstV l 1 p = y at *
    obtain ⟨x1, x2⟩ := x
    obtain ⟨y1, y2⟩ := y
    simp only at HV HFL HFR
    generalize nearR l p side = rr at *
    obtain ⟨r1, r2⟩ := rr
    cases b1 : decide (min x2 y2 > (l.length : Int)) <;> cases b2 : decide (x2 < y2) <;> cases b3 : decide (x2 = y2) <;> cases b4 : decide (side < 0)
    all_goals
      rw [b1, b2, b3, b4] at HV
      have HV2 := As.mk (show (r1, r2) = _ from HV.out)
      clear HV
      have c1 : decide ((l.length : Int) < min x2 y2) = decide (min x2 y2 > (l.length : Int)) := rfl
      rw [b1] at c1
      have c3 : (x2 == y2) = decide (x2 = y2) := rfl
      rw [b3] at c3
      go_enter Tryd.func9, Tryd.ntmps9
      go_wp2_with (first | (go_at_call 17; refine (HFR.out w2 HU2.out).mono ?_; rintro r w3 ⟨rfl, hu⟩; have HU3 := As.mk (HU2.out.trans hu (fun _ _ h => h)); clear hu) | (go_at_call 17; refine (HFL.out w1 HU1.out).mono ?_; rintro r w2 ⟨rfl, hu⟩; have HU2 := As.mk (HU1.out.trans hu (fun _ _ h => h)); clear hu) | (go_at_call 16; refine HM.out.mono ?_; rintro r w1 ⟨rfl, hu⟩; have HU1 := As.mk hu; clear hu))
      refine bodyPost_ret (by simp [results, Tryd.results9, go_sem]; rfl) rfl ⟨?_, HU3.out⟩
      rw [show r1 = _ from congrArg Prod.fst HV2.out, show r2 = _ from congrArg Prod.snd HV2.out]
      rfl
  · have hv : nearR l p side = (0, cmayV l p) := by unfold nearR; rw [if_pos h0]
    rw [hv]
    have c1 : (cmayV l p != 0) = true := by simpa using h0
    clear h hr h0 hv
    generalize cmayV l p = cv at *
    go_enter Tryd.func9, Tryd.ntmps9
    go_wp2_with (go_at_call 16; refine HM.out.mono ?_; rintro r w1 ⟨rfl, hu⟩; have HU1 := As.mk hu; clear hu)
    exact bodyPost_ret (v := .tuple #[.int .i64 0, .int .i64 cv]) (by simp [results, Tryd.results9, go_sem]) rfl ⟨rfl, HU1.out⟩
theorem near_doc : nearR awakeDoc 0 1 = (1, 0) := by kernel_rfl
set_option maxRecDepth 100000 in
set_option maxHeartbeats 4000000 in
theorem awake11_calls (w : World) : Calls Tryd.prog 6 #[] w fun r w' => r = .returned (.bool true) ∧ Pure w w' := by
  have HH := As.mk (fun W => House_calls W)
  have HC1 := As.mk (fun (W : World) (cb : Nat) (hs : SchR W cb houseRules houseGroups) => (by
    have hp : Pure W (W.alloc (.cells #[.int .i64 1, .int .i64 1, .int .i64 0, .int .i64 0, .int .i64 2, .int .i64 0, .int .i64 0, .int .i64 0] 41)) := Upd.alloc1 _ _ _
    have h1 := near_calls (c := 2) (l := awakeDoc) (p := 0) (side := 1) (hs.pure hp) (row_toks (F := fun _ => True) (heap_alloc_new W _) trivial) (by decide) (by decide)
    rw [near_doc] at h1
    exact h1.mono fun r w' h => ⟨h.1, hp.trans h.2 (fun _ _ h => h)⟩ :
    Calls Tryd.prog 9 #[.pointer (some ⟨cb, 0, none⟩), .slice (some ⟨W.heap.size, 0, none⟩) 2 2, .int .i64 0, .int .i64 1] (W.alloc (.cells #[.int .i64 1, .int .i64 1, .int .i64 0, .int .i64 0, .int .i64 2, .int .i64 0, .int .i64 0, .int .i64 0] 41)) fun e w' => e = .returned (.tuple #[.int .i64 1, .int .i64 0]) ∧ Pure W w'))
  go_enter Tryd.func6, Tryd.ntmps6
  go_wp2_with (first | (go_at_call 9; refine (HC1.out _ _ HS1.out).mono ?_; rintro r w2 ⟨rfl, hu⟩; have HU2 := As.mk (HU1.out.trans hu (fun _ _ h => h)); clear hu) | (go_at_call 10; refine (HH.out w).mono ?_; rintro r w1 ⟨cb1, rfl, hs, hu⟩; have HS1 := As.mk hs; have HU1 := As.mk hu; clear hu hs))
  go_ret
  exact ⟨rfl, HU2.out⟩
end Go.Proofs.YtfapglhdakhbeaaDoor
