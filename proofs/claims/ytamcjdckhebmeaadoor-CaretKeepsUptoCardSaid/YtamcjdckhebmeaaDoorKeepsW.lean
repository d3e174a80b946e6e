/- caret.Send, out of pos.Map's contract (a premise here). The law CaretKeeps' walk, out of pos.Map's contract. -/
import Derived.Test.YtamcjdckhebmeaaDoorRng
import Derived.Test.YtamcjdckhebmeaaDoorCaretN
import Derived.Test.YtamcjdckhebmeaaDoorHeld
namespace Go.Proofs.YtamcjdckhebmeaaDoor
open Go.RowKit
set_option linter.unusedVariables false
set_option linter.unusedSimpArgs false

theorem side_val {a b : Int} (m : List Rng) {sd : Int} (h : sd = if b < a then 1 else -1) : sendV m a b = if (mapV m a sd).2 ≠ 0 then (0, 0, (mapV m a sd).2) else if (mapV m b (-sd)).2 ≠ 0 then (0, 0, (mapV m b (-sd)).2) else ((mapV m a sd).1, (mapV m b (-sd)).1, 0) := by
  unfold sendV
  by_cases hb : b < a
  · rw [if_pos hb] at h
    subst h
    simp only [if_pos hb]
  · rw [if_neg hb] at h
    subst h
    simp only [if_neg hb, Int.neg_neg]
set_option maxRecDepth 100000 in
set_option maxHeartbeats 4000000 in
theorem send_at {w : World} {A : Option Addr} {c : Nat} {m : List Rng} {a b : Int} (sd : Int) (hs2 : sd = 1 ∨ sd = -1) (hsd : sd = if b < a then 1 else -1) (h : MapC w A c m) (W : World) (hW : Pure w W) :
    Calls Tryd.prog 11 #[.slice A m.length c, .int .i64 a, .int .i64 b] W fun r w' => r = .returned (.tuple #[.int .i64 (sendV m a b).1, .int .i64 (sendV m a b).2.1, .int .i64 (sendV m a b).2.2]) ∧ Pure W w' := by
  have HM1 := As.mk (fun (V : World) (hu : Pure W V) => h V (hW.trans hu (fun _ _ h => h)) a sd)
  have HM2 := As.mk (fun (V : World) (hu : Pure W V) => h V (hW.trans hu (fun _ _ h => h)) b (-sd))
  rw [side_val m hsd]
  generalize mapV m a sd = x at *
  generalize mapV m b (-sd) = y at *
  obtain ⟨x1, x2⟩ := x
  obtain ⟨y1, y2⟩ := y
  have wn : IntKind.i64.wrap (-(sd : Int)) = -sd := IntWalk.i64_in _ (by omega)
  clear h
  have g0 : decide (b < a) = decide (sd = 1) := by
    rw [Bool.eq_iff_iff, decide_eq_true_eq, decide_eq_true_eq]
    split at hsd <;> omega
  have key : ∀ bb : Bool, decide (b < a) = bb → sd = (if bb = true then 1 else -1) → Calls Tryd.prog 11 #[.slice A m.length c, .int .i64 a, .int .i64 b] W fun r w' => r = .returned (.tuple #[.int .i64 (if x2 ≠ 0 then (0, 0, x2) else if y2 ≠ 0 then (0, 0, y2) else (x1, y1, 0)).1, .int .i64 (if x2 ≠ 0 then (0, 0, x2) else if y2 ≠ 0 then (0, 0, y2) else (x1, y1, 0)).2.1, .int .i64 (if x2 ≠ 0 then (0, 0, x2) else if y2 ≠ 0 then (0, 0, y2) else (x1, y1, 0)).2.2]) ∧ Pure W w' := by
    intro bb hbb hsb
    have c0 : decide (a > b) = bb := hbb
    clear g0 hsd hs2
    by_cases h2 : x2 = 0
    · subst h2
      simp only [ne_eq, not_true_eq_false, if_false]
      by_cases h3 : y2 = 0
      · subst h3
        simp only [ne_eq, not_true_eq_false, if_false]
        cases bb
        all_goals
          simp only [Bool.false_eq_true, if_false, if_true] at hsb
          subst hsb
          go_enter Tryd.func11, Tryd.ntmps11
          go_wp2_with (go_at_call 18; refine (HM1.out _ (Upd.refl _ _)).mono ?_; rintro r w1 ⟨⟨g1, i1, o1, rfl⟩, hu⟩; have HU1 := As.mk hu; clear hu HM1; apply As.out)
          refine ⟨?_⟩
          go_wp2_with (go_at_call 18; refine (HM2.out _ (HU1.out.alloc _)).mono ?_; rintro r w2 ⟨⟨g2, i2, o2, rfl⟩, hu⟩; have hb9 := (hu.block w1.heap.size (by simp) (fun h => h)).trans (heap_alloc_new w1 _); have q0 : w2.cell? ⟨w1.heap.size, 0, none⟩ = some (.int .i64 x1) := (by unfold World.cell?; simp only [hb9]; rfl); have hz9 : w1.heap.size < w2.heap.size := (Array.getElem?_eq_some_iff.1 hb9).1; have HU2 := As.mk ((HU1.out.alloc _).trans hu (fun _ _ h => h)); clear hu hb9 HM2)
          go_quiet (fail)
          all_goals go_wp2
          all_goals go_ret3
          all_goals exact ⟨rfl, ((HU2.out.alloc _).drewN _)⟩
      · have c2 : (y2 != 0) = true := by simpa using h3
        have c3 : (y2 == 0) = false := by simpa using h3
        simp only [ne_eq, h3, not_false_eq_true, if_true]
        clear h3
        cases bb
        all_goals
          simp only [Bool.false_eq_true, if_false, if_true] at hsb
          subst hsb
          go_enter Tryd.func11, Tryd.ntmps11
          go_wp2_with (go_at_call 18; refine (HM1.out _ (Upd.refl _ _)).mono ?_; rintro r w1 ⟨⟨g1, i1, o1, rfl⟩, hu⟩; have HU1 := As.mk hu; clear hu HM1; apply As.out)
          refine ⟨?_⟩
          go_wp2_with (go_at_call 18; refine (HM2.out _ (HU1.out.alloc _)).mono ?_; rintro r w2 ⟨⟨g2, i2, o2, rfl⟩, hu⟩; have HU2 := As.mk ((HU1.out.alloc _).trans hu (fun _ _ h => h)); clear hu HM2)
          go_ret3
          exact ⟨rfl, HU2.out.alloc _⟩
    · have c2 : (x2 != 0) = true := by simpa using h2
      have c3 : (x2 == 0) = false := by simpa using h2
      simp only [ne_eq, h2, not_false_eq_true, if_true]
      clear h2
      cases bb
      all_goals
        simp only [Bool.false_eq_true, if_false, if_true] at hsb
        subst hsb
        go_enter Tryd.func11, Tryd.ntmps11
        go_wp2_with (go_at_call 18; refine (HM1.out _ (Upd.refl _ _)).mono ?_; rintro r w1 ⟨⟨g1, i1, o1, rfl⟩, hu⟩; have HU1 := As.mk hu; clear hu HM1)
        go_ret3
        exact ⟨rfl, HU1.out.alloc _⟩
  exact key _ rfl (by
    rw [hsd]
    simp only [decide_eq_true_eq])
end Go.Proofs.YtamcjdckhebmeaaDoor
namespace Go.Proofs.YtamcjdckhebmeaaDoor
open Go.RowKit
set_option linter.unusedVariables false
set_option linter.unusedSimpArgs false

theorem send_calls {w : World} {A : Option Addr} {c : Nat} {m : List Rng} {a b : Int} (h : MapC w A c m) (W : World) (hW : Pure w W) :
    Calls Tryd.prog 11 #[.slice A m.length c, .int .i64 a, .int .i64 b] W fun r w' => r = .returned (.tuple #[.int .i64 (sendV m a b).1, .int .i64 (sendV m a b).2.1, .int .i64 (sendV m a b).2.2]) ∧ Pure W w' :=
  send_at (if b < a then 1 else -1) (by split <;> simp) rfl h W hW
set_option maxRecDepth 100000 in
set_option maxHeartbeats 4000000 in
theorem Keeps_walk {w : World} {A : Option Addr} {c : Nat} {m : List Rng} {a b : Int} (h : MapC w A c m) :
    Calls Tryd.prog 5 #[.slice A m.length c, .int .i64 a, .int .i64 b] w fun r w' => r = .returned (.bool true) ∧ Pure w w' := by
  have H1 := As.mk (fun (W : World) (hW : Pure w W) => send_calls (a := min a b) (b := max a b) h W hW)
  have H2 := As.mk (fun (W : World) (hW : Pure w W) => send_calls (a := max a b) (b := min a b) h W hW)
  have hp := keeps_plain m a b
  clear h
  generalize sendV m (min a b) (max a b) = s at *
  generalize sendV m (max a b) (min a b) = t at *
  obtain ⟨x, y, e⟩ := s
  obtain ⟨u, v, f⟩ := t
  simp only at hp H1 H2
  obtain ⟨p1, p2⟩ := hp
  have fin : ∀ (z : Bool), (e != 0) = z → (z = false → (f != 0) = true → x = 0 ∧ y = 0) → (z = true → x = 0 ∧ y = 0) → ((e != 0) = false → (f != 0) = false → decide (x ≤ y) = true ∧ ((a == b) = true ∨ ((a == b) = false ∧ u = y ∧ v = x))) → Calls Tryd.prog 5 #[.slice A m.length c, .int .i64 a, .int .i64 b] w fun r w' => r = .returned (.bool true) ∧ Pure w w' := by
    intro z hz h1 h2 h3
    clear p1 p2
    cases z
    · cases hf : (f != 0)
      · obtain ⟨d1, hh⟩ := h3 hz hf
        clear h1 h2 h3
        rcases hh with d2 | ⟨d2, rfl, rfl⟩
        all_goals
          go_enter Tryd.func5, Tryd.ntmps5
          go_wp2_with (go_at_call 11; refine (H1.out _ (Upd.refl _ _)).mono ?_; rintro r w1 ⟨rfl, hu⟩; have HU1 := As.mk hu; clear hu H1; apply As.out)
          refine ⟨?_⟩
          go_wp2_with (first | (go_at_call 7; refine (awake11_calls _).mono ?_; rintro r w9 ⟨rfl, hu9⟩; have HU9 := As.mk (HU2.out.trans hu9 (fun _ _ h => h)); clear hu9) | (go_at_call 11; refine (H2.out _ HU1.out).mono ?_; rintro r w2 ⟨rfl, hu⟩; have HU2 := As.mk (HU1.out.trans hu (fun _ _ h => h)); clear hu H2))
          go_ret
          exact ⟨rfl, HU9.out⟩
      · obtain ⟨rfl, rfl⟩ := h1 rfl hf
        clear h1 h2 h3
        go_enter Tryd.func5, Tryd.ntmps5
        go_wp2_with (go_at_call 11; refine (H1.out _ (Upd.refl _ _)).mono ?_; rintro r w1 ⟨rfl, hu⟩; have HU1 := As.mk hu; clear hu H1; apply As.out)
        refine ⟨?_⟩
        go_wp2_with (first | (go_at_call 7; refine (awake11_calls _).mono ?_; rintro r w9 ⟨rfl, hu9⟩; have HU9 := As.mk (HU2.out.trans hu9 (fun _ _ h => h)); clear hu9) | (go_at_call 11; refine (H2.out _ HU1.out).mono ?_; rintro r w2 ⟨rfl, hu⟩; have HU2 := As.mk (HU1.out.trans hu (fun _ _ h => h)); clear hu H2))
        go_ret
        exact ⟨rfl, HU9.out⟩
    · obtain ⟨rfl, rfl⟩ := h2 rfl
      clear h1 h2 h3
      go_enter Tryd.func5, Tryd.ntmps5
      go_wp2_with (go_at_call 11; refine (H1.out _ (Upd.refl _ _)).mono ?_; rintro r w1 ⟨rfl, hu⟩; have HU1 := As.mk hu; clear hu H1; apply As.out)
      refine ⟨?_⟩
      go_wp2_with (first | (go_at_call 7; refine (awake11_calls _).mono ?_; rintro r w9 ⟨rfl, hu9⟩; have HU9 := As.mk (HU2.out.trans hu9 (fun _ _ h => h)); clear hu9) | (go_at_call 11; refine (H2.out _ HU1.out).mono ?_; rintro r w2 ⟨rfl, hu⟩; have HU2 := As.mk (HU1.out.trans hu (fun _ _ h => h)); clear hu H2))
      go_ret
      exact ⟨rfl, HU9.out⟩
  refine fin _ rfl (fun _ hf => p1 (.inr (by simpa using hf))) (fun he => p1 (.inl (by simpa using he))) (fun he hf => ?_)
  obtain ⟨h1, h2⟩ := p2 (by simpa using he) (by simpa using hf)
  refine ⟨by simpa using h1, ?_⟩
  rcases h2 with h2 | h2
  · exact .inl (by simpa using h2)
  · by_cases hab : a = b
    · exact .inl (by simpa using hab)
    · exact .inr ⟨by simpa using hab, h2.1, h2.2⟩
end Go.Proofs.YtamcjdckhebmeaaDoor
