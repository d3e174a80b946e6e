/- caret.Send. -/
import Derived.Test.YtfapglhdakhbeaaDoorRng
import Derived.Test.YtfapglhdakhbeaaDoorCaretN
import Derived.Test.YtfapglhdakhbeaaDoorHeld
namespace Go.Proofs.YtfapglhdakhbeaaDoor
open Go.RowKit
set_option linter.unusedVariables false
set_option linter.unusedSimpArgs false

theorem side_val {a b : Int} (m : List Rng) {sd : Int} (h : sd = if b < a then 1 else -1) : sendV m a b = if (mapV m a sd).2 ≠ 0 then (0, 0, (mapV m a sd).2) else if (mapV m b (-sd)).2 ≠ 0 then (0, 0, (mapV m b (-sd)).2) else ((mapV m a sd).1, (mapV m b (-sd)).1, 0) := by
  unfold sendV
  by_cases hb : b < a
  · rw [if_pos hb] at h
    subst h
    simp only [if_pos hb]
  · rw [if_neg hb] at h
    subst h
    simp only [if_neg hb, Int.neg_neg]
set_option maxRecDepth 100000 in
set_option maxHeartbeats 4000000 in
theorem send_at {w : World} {A : Option Addr} {c : Nat} {m : List Rng} {a b : Int} (sd : Int) (hs2 : sd = 1 ∨ sd = -1) (hsd : sd = if b < a then 1 else -1) (h : MapC w A c m) (W : World) (hW : Pure w W) :
    Calls Tryd.prog 4 #[.slice A m.length c, .int .i64 a, .int .i64 b] W fun r w' => r = .returned (.tuple #[.int .i64 (sendV m a b).1, .int .i64 (sendV m a b).2.1, .int .i64 (sendV m a b).2.2]) ∧ Pure W w' := by
  have HM1 := As.mk (fun (V : World) (hu : Pure W V) => h V (hW.trans hu (fun _ _ h => h)) a sd)
  have HM2 := As.mk (fun (V : World) (hu : Pure W V) => h V (hW.trans hu (fun _ _ h => h)) b (-sd))
  rw [side_val m hsd]
  generalize mapV m a sd = x at *
  generalize mapV m b (-sd) = y at *
  obtain ⟨x1, x2⟩ := x
  obtain ⟨y1, y2⟩ := y
  have wn : IntKind.i64.wrap (-(sd : Int)) = -sd := IntWalk.i64_in _ (by omega)
  clear h
  have g0 : decide (b < a) = decide (sd = 1) := by
    rw [Bool.eq_iff_iff, decide_eq_true_eq, decide_eq_true_eq]
    split at hsd <;> omega
  have key : ∀ bb : Bool, decide (b < a) = bb → sd = (if bb = true then 1 else -1) → Calls Tryd.prog 4 #[.slice A m.length c, .int .i64 a, .int .i64 b] W fun r w' => r = .returned (.tuple #[.int .i64 (if x2 ≠ 0 then (0, 0, x2) else if y2 ≠ 0 then (0, 0, y2) else (x1, y1, 0)).1, .int .i64 (if x2 ≠ 0 then (0, 0, x2) else if y2 ≠ 0 then (0, 0, y2) else (x1, y1, 0)).2.1, .int .i64 (if x2 ≠ 0 then (0, 0, x2) else if y2 ≠ 0 then (0, 0, y2) else (x1, y1, 0)).2.2]) ∧ Pure W w' := by
    intro bb hbb hsb
    have c0 : decide (a > b) = bb := hbb
    clear g0 hsd hs2
    by_cases h2 : x2 = 0
    · subst h2
      simp only [ne_eq, not_true_eq_false, if_false]
      by_cases h3 : y2 = 0
      · subst h3
        simp only [ne_eq, not_true_eq_false, if_false]
        cases bb
        all_goals
          simp only [Bool.false_eq_true, if_false, if_true] at hsb
          subst hsb
          go_enter Tryd.func4, Tryd.ntmps4
          go_wp2_with (go_at_call 7; refine (HM1.out _ (Upd.refl _ _)).mono ?_; rintro r w1 ⟨⟨g1, i1, o1, rfl⟩, hu⟩; have HU1 := As.mk hu; clear hu HM1; apply As.out)
          refine ⟨?_⟩
          go_wp2_with (go_at_call 7; refine (HM2.out _ (HU1.out.alloc _)).mono ?_; rintro r w2 ⟨⟨g2, i2, o2, rfl⟩, hu⟩; have hb9 := (hu.block w1.heap.size (by simp) (fun h => h)).trans (heap_alloc_new w1 _); have q0 : w2.cell? ⟨w1.heap.size, 0, none⟩ = some (.int .i64 x1) := (by unfold World.cell?; simp only [hb9]; rfl); have hz9 : w1.heap.size < w2.heap.size := (Array.getElem?_eq_some_iff.1 hb9).1; have HU2 := As.mk ((HU1.out.alloc _).trans hu (fun _ _ h => h)); clear hu hb9 HM2)
          go_quiet (fail)
          all_goals go_wp2
          all_goals go_ret3
          all_goals exact ⟨rfl, ((HU2.out.alloc _).drewN _)⟩
      · have c2 : (y2 != 0) = true := by simpa using h3
        have c3 : (y2 == 0) = false := by simpa using h3
        simp only [ne_eq, h3, not_false_eq_true, if_true]
        clear h3
        cases bb
        all_goals
          simp only [Bool.false_eq_true, if_false, if_true] at hsb
          subst hsb
          go_enter Tryd.func4, Tryd.ntmps4
          go_wp2_with (go_at_call 7; refine (HM1.out _ (Upd.refl _ _)).mono ?_; rintro r w1 ⟨⟨g1, i1, o1, rfl⟩, hu⟩; have HU1 := As.mk hu; clear hu HM1; apply As.out)
          refine ⟨?_⟩
          go_wp2_with (go_at_call 7; refine (HM2.out _ (HU1.out.alloc _)).mono ?_; rintro r w2 ⟨⟨g2, i2, o2, rfl⟩, hu⟩; have HU2 := As.mk ((HU1.out.alloc _).trans hu (fun _ _ h => h)); clear hu HM2)
          go_ret3
          exact ⟨rfl, HU2.out.alloc _⟩
    · have c2 : (x2 != 0) = true := by simpa using h2
      have c3 : (x2 == 0) = false := by simpa using h2
      simp only [ne_eq, h2, not_false_eq_true, if_true]
      clear h2
      cases bb
      all_goals
        simp only [Bool.false_eq_true, if_false, if_true] at hsb
        subst hsb
        go_enter Tryd.func4, Tryd.ntmps4
        go_wp2_with (go_at_call 7; refine (HM1.out _ (Upd.refl _ _)).mono ?_; rintro r w1 ⟨⟨g1, i1, o1, rfl⟩, hu⟩; have HU1 := As.mk hu; clear hu HM1)
        go_ret3
        exact ⟨rfl, HU1.out.alloc _⟩
  exact key _ rfl (by
    rw [hsd]
    simp only [decide_eq_true_eq])
end Go.Proofs.YtfapglhdakhbeaaDoor
namespace Go.Proofs.YtfapglhdakhbeaaDoor
open Go.RowKit
set_option linter.unusedVariables false
set_option linter.unusedSimpArgs false

theorem send_calls {w : World} {A : Option Addr} {c : Nat} {m : List Rng} {a b : Int} (h : MapC w A c m) (W : World) (hW : Pure w W) :
    Calls Tryd.prog 4 #[.slice A m.length c, .int .i64 a, .int .i64 b] W fun r w' => r = .returned (.tuple #[.int .i64 (sendV m a b).1, .int .i64 (sendV m a b).2.1, .int .i64 (sendV m a b).2.2]) ∧ Pure W w' :=
  send_at (if b < a then 1 else -1) (by split <;> simp) rfl h W hW
end Go.Proofs.YtfapglhdakhbeaaDoor
