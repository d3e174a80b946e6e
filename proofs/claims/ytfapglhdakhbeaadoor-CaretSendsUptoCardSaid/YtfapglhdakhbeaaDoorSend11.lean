/- emenderref11.Send; CaretSends: the law's walk. -/
import Derived.Test.YtfapglhdakhbeaaDoorSendW
import Derived.Test.YtfapglhdakhbeaaDoorMap8
namespace Go.Proofs.YtfapglhdakhbeaaDoor
open Go.RowKit
set_option linter.unusedVariables false
set_option linter.unusedSimpArgs false

set_option maxRecDepth 100000 in
set_option maxHeartbeats 4000000 in
theorem send11_at {w : World} {A : Option Addr} {c : Nat} {m : List Rng} {a b : Int} (sd : Int) (hs2 : sd = 1 ∨ sd = -1) (hsd : sd = if b < a then 1 else -1) (h : Map8C w A c m) (W : World) (hW : Pure w W) :
    Calls Tryd.prog 5 #[.slice A m.length c, .int .i64 a, .int .i64 b] W fun r w' => r = .returned (.tuple #[.int .i64 (sendV m a b).1, .int .i64 (sendV m a b).2.1, .int .i64 (sendV m a b).2.2]) ∧ Pure W w' := by
  have HM1 := As.mk (fun (V : World) (hu : Pure W V) => h V (hW.trans hu (fun _ _ h => h)) a sd)
  have HM2 := As.mk (fun (V : World) (hu : Pure W V) => h V (hW.trans hu (fun _ _ h => h)) b (-sd))
  rw [side_val m hsd]
  generalize mapV m a sd = x at *
  generalize mapV m b (-sd) = y at *
  obtain ⟨x1, x2⟩ := x
  obtain ⟨y1, y2⟩ := y
  have wn : IntKind.i64.wrap (-(sd : Int)) = -sd := IntWalk.i64_in _ (by omega)
  clear h
  have g0 : decide (b < a) = decide (sd = 1) := by
    rw [Bool.eq_iff_iff, decide_eq_true_eq, decide_eq_true_eq]
    split at hsd <;> omega
  have key : ∀ bb : Bool, decide (b < a) = bb → sd = (if bb = true then 1 else -1) → Calls Tryd.prog 5 #[.slice A m.length c, .int .i64 a, .int .i64 b] W fun r w' => r = .returned (.tuple #[.int .i64 (if x2 ≠ 0 then (0, 0, x2) else if y2 ≠ 0 then (0, 0, y2) else (x1, y1, 0)).1, .int .i64 (if x2 ≠ 0 then (0, 0, x2) else if y2 ≠ 0 then (0, 0, y2) else (x1, y1, 0)).2.1, .int .i64 (if x2 ≠ 0 then (0, 0, x2) else if y2 ≠ 0 then (0, 0, y2) else (x1, y1, 0)).2.2]) ∧ Pure W w' := by
    intro bb hbb hsb
    have c0 : decide (a > b) = bb := hbb
    clear g0 hsd hs2
    by_cases h2 : x2 = 0
    · subst h2
      simp only [ne_eq, not_true_eq_false, if_false]
      by_cases h3 : y2 = 0
      · subst h3
        simp only [ne_eq, not_true_eq_false, if_false]
        cases bb
        all_goals
          simp only [Bool.false_eq_true, if_false, if_true] at hsb
          subst hsb
          go_enter Tryd.func5, Tryd.ntmps5
          go_wp2_with (go_at_call 8; refine (HM1.out _ (Upd.refl _ _)).mono ?_; rintro r w1 ⟨⟨g1, i1, o1, rfl⟩, hu⟩; have HU1 := As.mk hu; clear hu HM1; apply As.out)
          refine ⟨?_⟩
          go_wp2_with (go_at_call 8; refine (HM2.out _ (HU1.out.alloc _)).mono ?_; rintro r w2 ⟨⟨g2, i2, o2, rfl⟩, hu⟩; have hb9 := (hu.block w1.heap.size (by simp) (fun h => h)).trans (heap_alloc_new w1 _); have q0 : w2.cell? ⟨w1.heap.size, 0, none⟩ = some (.int .i64 x1) := (by unfold World.cell?; simp only [hb9]; rfl); have hz9 : w1.heap.size < w2.heap.size := (Array.getElem?_eq_some_iff.1 hb9).1; have HU2 := As.mk ((HU1.out.alloc _).trans hu (fun _ _ h => h)); clear hu hb9 HM2)
          go_quiet (fail)
          all_goals go_wp2
          all_goals go_ret3
          all_goals exact ⟨rfl, ((HU2.out.alloc _).drewN _)⟩
      · have c2 : (y2 != 0) = true := by simpa using h3
        have c3 : (y2 == 0) = false := by simpa using h3
        simp only [ne_eq, h3, not_false_eq_true, if_true]
        clear h3
        cases bb
        all_goals
          simp only [Bool.false_eq_true, if_false, if_true] at hsb
          subst hsb
          go_enter Tryd.func5, Tryd.ntmps5
          go_wp2_with (go_at_call 8; refine (HM1.out _ (Upd.refl _ _)).mono ?_; rintro r w1 ⟨⟨g1, i1, o1, rfl⟩, hu⟩; have HU1 := As.mk hu; clear hu HM1; apply As.out)
          refine ⟨?_⟩
          go_wp2_with (go_at_call 8; refine (HM2.out _ (HU1.out.alloc _)).mono ?_; rintro r w2 ⟨⟨g2, i2, o2, rfl⟩, hu⟩; have HU2 := As.mk ((HU1.out.alloc _).trans hu (fun _ _ h => h)); clear hu HM2)
          go_ret3
          exact ⟨rfl, HU2.out.alloc _⟩
    · have c2 : (x2 != 0) = true := by simpa using h2
      have c3 : (x2 == 0) = false := by simpa using h2
      simp only [ne_eq, h2, not_false_eq_true, if_true]
      clear h2
      cases bb
      all_goals
        simp only [Bool.false_eq_true, if_false, if_true] at hsb
        subst hsb
        go_enter Tryd.func5, Tryd.ntmps5
        go_wp2_with (go_at_call 8; refine (HM1.out _ (Upd.refl _ _)).mono ?_; rintro r w1 ⟨⟨g1, i1, o1, rfl⟩, hu⟩; have HU1 := As.mk hu; clear hu HM1)
        go_ret3
        exact ⟨rfl, HU1.out.alloc _⟩
  exact key _ rfl (by
    rw [hsd]
    simp only [decide_eq_true_eq])
theorem send11_calls {w : World} {A : Option Addr} {c : Nat} {m : List Rng} {a b : Int} (h : Map8C w A c m) (W : World) (hW : Pure w W) :
    Calls Tryd.prog 5 #[.slice A m.length c, .int .i64 a, .int .i64 b] W fun r w' => r = .returned (.tuple #[.int .i64 (sendV m a b).1, .int .i64 (sendV m a b).2.1, .int .i64 (sendV m a b).2.2]) ∧ Pure W w' :=
  send11_at (if b < a then 1 else -1) (by split <;> simp) rfl h W hW
set_option maxRecDepth 100000 in
set_option maxHeartbeats 4000000 in
theorem Sends_walk {w : World} {F : Nat → Prop} {A : Option Addr} {c : Nat} {m : List Rng} {a b : Int} (hr : rngR.row w F A m) (hb : m.length ≤ 1048576) :
    Calls Tryd.prog 3 #[.slice A m.length c, .int .i64 a, .int .i64 b] w fun r w' => r = .returned (.bool true) ∧ Pure w w' := by
  have H1 := As.mk (fun (W : World) (hW : Pure w W) => send_calls (a := a) (b := b) (map_calls (c := c) hr hb) W hW)
  have H2 := As.mk (fun (W : World) (hW : Pure w W) => send11_calls (a := a) (b := b) (map8_calls (c := c) hr hb) W hW)
  clear hr
  generalize sendV m a b = s at *
  obtain ⟨x, y, e⟩ := s
  simp only at H1 H2
  go_enter Tryd.func3, Tryd.ntmps3
  go_wp2_with (first | (go_at_call 6; refine (awake11_calls _).mono ?_; rintro r w9 ⟨rfl, hu9⟩; have HU9 := As.mk (HU2.out.trans hu9 (fun _ _ h => h)); clear hu9) | (go_at_call 5; refine (H2.out _ HU1.out).mono ?_; rintro r w2 ⟨rfl, hu⟩; have HU2 := As.mk (HU1.out.trans hu (fun _ _ h => h)); clear hu) | (go_at_call 4; refine (H1.out _ (Upd.refl _ _)).mono ?_; rintro r w1 ⟨rfl, hu⟩; have HU1 := As.mk hu; clear hu))
  go_ret
  exact ⟨rfl, HU9.out⟩
end Go.Proofs.YtfapglhdakhbeaaDoor
