/- step.Check. -/
import Derived.Test.YtfapglhdakhbeaaGreatDoorMarkL
namespace Go.Proofs.YtfapglhdakhbeaaGreatDoor
open Go.RowKit
set_option linter.unusedVariables false
set_option linter.unusedSimpArgs false

def okTo (B : Prop) (sl : List Tok) (j : Nat) : Prop := B ∧ ∀ x ∈ sl.take j, rightB x = true
theorem okTo_zero {B : Prop} {sl : List Tok} : okTo B sl 0 ↔ B := by simp [okTo]
theorem okTo_succ {B : Prop} {sl : List Tok} {j : Nat} {x : Tok} (hx : sl[j]? = some x) : okTo B sl (j + 1) ↔ okTo B sl j ∧ rightB x = true := by
  unfold okTo
  rw [List.take_add_one, hx]
  constructor
  · exact fun ⟨h1, h2⟩ => ⟨⟨h1, fun y hy => h2 y (List.mem_append_left _ hy)⟩, h2 x (by simp)⟩
  · exact fun ⟨⟨h1, h2⟩, h3⟩ => ⟨h1, fun y hy => by
      rcases List.mem_append.1 hy with h | h
      · exact h2 y h
      · simp at h; rw [h]; exact h3⟩
theorem okTo_all {B : Prop} {sl : List Tok} : okTo B sl sl.length ↔ B ∧ ∀ x ∈ sl, rightB x = true := by
  unfold okTo
  rw [List.take_length]
set_option maxRecDepth 100000 in
set_option maxHeartbeats 4000000 in
theorem sc_around {w : World} {F : Nat → Prop} {A : Option Addr} {c : Nat} {fr tt gf gt ins mk : Int} {sl : List Tok} (hr : tokR.row w F A sl) (hb : sl.length ≤ 2048) :
    Calls Tryz.prog 119 #[(StepD.mk 1 fr tt gf gt ins sl mk).val A c] w fun r w' => r = .returned (.int .i64 (if (StepD.mk 1 fr tt gf gt ins sl mk).ok then 0 else 1)) ∧ Pure w w' := by
  have HR := As.mk hr
  have hL1 : (((listL mk 3).length : Int) == 1) = decide (markOne mk) := by
    rw [Bool.eq_iff_iff, beq_iff_eq, decide_eq_true_eq, ← list_one]
    omega
  have HBB := As.mk (show (∀ (B : Prop), (B ↔ ((0 ≤ fr ∧ fr ≤ tt ∧ tt ≤ 2048) ∧ fr ≤ gf ∧ gf < gt ∧ gt ≤ tt ∧ 0 ≤ ins ∧ ins ≤ (sl.length : Int) ∧ mk = 0)) → ((StepD.mk 1 fr tt gf gt ins sl mk).ok ↔ okTo B sl sl.length)) from fun B hB => by
    rw [okTo_all, hB]
    unfold StepD.ok StepD.kindOk
    constructor
    · rintro ⟨h1, h2, h3, h4, h5⟩
      refine ⟨?_, h5⟩
      dsimp only at h1 h2 h3 h4
      rcases h4 with h4 | h4 | h4
      · exact ⟨⟨h1, h2, h3⟩, h4.2⟩
      · exact absurd h4.1 (by decide)
      · exact absurd h4.1 (by decide)
    · rintro ⟨h1, h5⟩
      exact ⟨h1.1.1, h1.1.2.1, h1.1.2.2, .inl ⟨rfl, h1.2⟩, h5⟩)
  obtain ⟨B, hB⟩ : ∃ B : Prop, B ↔ ((0 ≤ fr ∧ fr ≤ tt ∧ tt ≤ 2048) ∧ fr ≤ gf ∧ gf < gt ∧ gt ≤ tt ∧ 0 ≤ ins ∧ ins ≤ (sl.length : Int) ∧ mk = 0) := ⟨_, Iff.rfl⟩
  have HOK := As.mk (HBB.out B hB)
  clear hr HBB
  obtain ⟨V, hV⟩ : ∃ V : Int, V = (if (StepD.mk 1 fr tt gf gt ins sl mk).ok then 0 else 1) := ⟨_, rfl⟩
  rw [← hV]
  have HV0 := As.mk (show okTo B sl sl.length → V = 0 from fun h => by rw [hV, if_pos (HOK.out.2 h)])
  have HV1 := As.mk (show ¬ okTo B sl sl.length → V = 1 from fun h => by rw [hV, if_neg (fun h2 => h (HOK.out.1 h2))])
  clear hV HOK
  unfold StepD.val
  try simp only
  skip
  all_goals cases hmo : decide (markOne mk)
  all_goals
    rw [hmo] at hL1
    have HMO := As.mk hmo
    have HBI := As.mk hB
    clear hmo hB
    go_enter Tryz.func119, Tryz.ntmps119
    go_wp2_with (go_at_call 158; refine (List_calls _ _).mono ?_; rintro e w1 ⟨⟨A1, c1, rfl⟩, hu⟩; have HU1 := As.mk hu; obtain ⟨oc, of⟩ := hu.olds; have hz1 := hu.size; clear hu)
    all_goals
      go_loopg [4, 123] sl.length (fun gg v4 iv wr => ∃ (j : Nat) (bb : Bool), j + gg = sl.length ∧ iv = .int .i64 j ∧ v4 = .bool bb ∧ As ((bb = true ↔ okTo B sl j) ∧ Pure w wr))
      case atStart => exact ⟨0, _, by omega, rfl, rfl, ⟨by
        rw [okTo_zero, HBI.out]
        have h9 := HMO.out
        simp only [decide_eq_true_eq, decide_eq_false_iff_not] at h9
        have hlen : 0 ≤ (sl.length : Int) := by omega
        simp only [Bool.false_eq_true, true_iff, false_iff, iff_true, iff_false, h9, true_and, and_true, false_and, and_false, not_false_eq_true, decide_eq_true_eq, beq_iff_eq]
        try omega, (by repeat (first | exact Upd.refl _ _ | exact HU1.out | (refine Upd.alloc ?_ _) | (refine Upd.setCell ?_ (by intro h; simp at h; try omega) _) | (refine Upd.drew ?_) | (refine Upd.drewN ?_ _) | (refine Upd.trans ?_ HU1.out (fun _ _ h => h))))⟩⟩
      case round =>
        obtain ⟨j, bb, hj, rfl, rfl, HC⟩ := hrel
        by_cases hlt : j < sl.length
        · obtain ⟨x, hx⟩ : ∃ x, sl[j]? = some x := ⟨_, List.getElem?_eq_getElem hlt⟩
          obtain ⟨b, o, rfl, hF, hbl, d0, d1, d2, d3⟩ := tok_at (Rp.row_pure HR.out HC.out.2) hx
          obtain ⟨g1, rfl⟩ : ∃ m, gk = m + 1 := ⟨gk - 1, by omega⟩
          have HS := As.mk (okTo_succ (B := B) hx)
          clear hx
          cases hrx : rightB x <;> cases bb
          all_goals
            have HRX := As.mk hrx
            clear hrx
            go_wp2_with (go_at_call 107; refine (flatRight_is HRX.out _).mono ?_; rintro e w2 ⟨rfl, hu2⟩; have HU2 := As.mk hu2; clear hu2)
            go_roundg g1
            case measure => omega
            case rel => exact ⟨j + 1, _, by omega, by go_num, rfl, ⟨by rw [HS.out, ← HC.out.1, HRX.out]; simp, by first | exact HC.out.2.alloc _ | exact (HC.out.2.alloc _).trans HU2.out (fun _ _ h => h)⟩⟩
        · obtain rfl : j = sl.length := by omega
          have HP := As.mk HC.out.2
          cases bb
          · have e := HV1.out (fun h => by have := HC.out.1.2 h; cases this)
            subst e
            clear HC
            go_wp2
            go_ret
            exact ⟨rfl, HP.out⟩
          · have e := HV0.out (HC.out.1.1 rfl)
            subst e
            clear HC
            go_wp2
            go_ret
            exact ⟨rfl, HP.out⟩
set_option maxRecDepth 100000 in
set_option maxHeartbeats 4000000 in
theorem sc_replace {w : World} {F : Nat → Prop} {A : Option Addr} {c : Nat} {fr tt gf gt ins mk : Int} {sl : List Tok} (hr : tokR.row w F A sl) (hb : sl.length ≤ 2048) :
    Calls Tryz.prog 119 #[(StepD.mk 0 fr tt gf gt ins sl mk).val A c] w fun r w' => r = .returned (.int .i64 (if (StepD.mk 0 fr tt gf gt ins sl mk).ok then 0 else 1)) ∧ Pure w w' := by
  have HR := As.mk hr
  have hL1 : (((listL mk 3).length : Int) == 1) = decide (markOne mk) := by
    rw [Bool.eq_iff_iff, beq_iff_eq, decide_eq_true_eq, ← list_one]
    omega
  have HBB := As.mk (show (∀ (B : Prop), (B ↔ ((0 ≤ fr ∧ fr ≤ tt ∧ tt ≤ 2048) ∧ mk = 0 ∧ gf = 0 ∧ gt = 0 ∧ ins = 0)) → ((StepD.mk 0 fr tt gf gt ins sl mk).ok ↔ okTo B sl sl.length)) from fun B hB => by
    rw [okTo_all, hB]
    unfold StepD.ok StepD.kindOk
    constructor
    · rintro ⟨h1, h2, h3, h4, h5⟩
      refine ⟨?_, h5⟩
      dsimp only at h1 h2 h3 h4
      rcases h4 with h4 | h4 | h4
      · exact absurd h4.1 (by decide)
      · exact ⟨⟨h1, h2, h3⟩, h4.2⟩
      · exact absurd h4.1 (by decide)
    · rintro ⟨h1, h5⟩
      exact ⟨h1.1.1, h1.1.2.1, h1.1.2.2, .inr (.inl ⟨rfl, h1.2⟩), h5⟩)
  obtain ⟨B, hB⟩ : ∃ B : Prop, B ↔ ((0 ≤ fr ∧ fr ≤ tt ∧ tt ≤ 2048) ∧ mk = 0 ∧ gf = 0 ∧ gt = 0 ∧ ins = 0) := ⟨_, Iff.rfl⟩
  have HOK := As.mk (HBB.out B hB)
  clear hr HBB
  obtain ⟨V, hV⟩ : ∃ V : Int, V = (if (StepD.mk 0 fr tt gf gt ins sl mk).ok then 0 else 1) := ⟨_, rfl⟩
  rw [← hV]
  have HV0 := As.mk (show okTo B sl sl.length → V = 0 from fun h => by rw [hV, if_pos (HOK.out.2 h)])
  have HV1 := As.mk (show ¬ okTo B sl sl.length → V = 1 from fun h => by rw [hV, if_neg (fun h2 => h (HOK.out.1 h2))])
  clear hV HOK
  unfold StepD.val
  try simp only
  skip
  all_goals cases hmo : decide (markOne mk)
  all_goals
    rw [hmo] at hL1
    have HMO := As.mk hmo
    have HBI := As.mk hB
    clear hmo hB
    go_enter Tryz.func119, Tryz.ntmps119
    go_wp2_with (go_at_call 158; refine (List_calls _ _).mono ?_; rintro e w1 ⟨⟨A1, c1, rfl⟩, hu⟩; have HU1 := As.mk hu; obtain ⟨oc, of⟩ := hu.olds; have hz1 := hu.size; clear hu)
    all_goals
      go_loopg [4, 123] sl.length (fun gg v4 iv wr => ∃ (j : Nat) (bb : Bool), j + gg = sl.length ∧ iv = .int .i64 j ∧ v4 = .bool bb ∧ As ((bb = true ↔ okTo B sl j) ∧ Pure w wr))
      case atStart => exact ⟨0, _, by omega, rfl, rfl, ⟨by
        rw [okTo_zero, HBI.out]
        have h9 := HMO.out
        simp only [decide_eq_true_eq, decide_eq_false_iff_not] at h9
        have hlen : 0 ≤ (sl.length : Int) := by omega
        simp only [Bool.false_eq_true, true_iff, false_iff, iff_true, iff_false, h9, true_and, and_true, false_and, and_false, not_false_eq_true, decide_eq_true_eq, beq_iff_eq]
        try omega, (by repeat (first | exact Upd.refl _ _ | exact HU1.out | (refine Upd.alloc ?_ _) | (refine Upd.setCell ?_ (by intro h; simp at h; try omega) _) | (refine Upd.drew ?_) | (refine Upd.drewN ?_ _) | (refine Upd.trans ?_ HU1.out (fun _ _ h => h))))⟩⟩
      case round =>
        obtain ⟨j, bb, hj, rfl, rfl, HC⟩ := hrel
        by_cases hlt : j < sl.length
        · obtain ⟨x, hx⟩ : ∃ x, sl[j]? = some x := ⟨_, List.getElem?_eq_getElem hlt⟩
          obtain ⟨b, o, rfl, hF, hbl, d0, d1, d2, d3⟩ := tok_at (Rp.row_pure HR.out HC.out.2) hx
          obtain ⟨g1, rfl⟩ : ∃ m, gk = m + 1 := ⟨gk - 1, by omega⟩
          have HS := As.mk (okTo_succ (B := B) hx)
          clear hx
          cases hrx : rightB x <;> cases bb
          all_goals
            have HRX := As.mk hrx
            clear hrx
            go_wp2_with (go_at_call 107; refine (flatRight_is HRX.out _).mono ?_; rintro e w2 ⟨rfl, hu2⟩; have HU2 := As.mk hu2; clear hu2)
            go_roundg g1
            case measure => omega
            case rel => exact ⟨j + 1, _, by omega, by go_num, rfl, ⟨by rw [HS.out, ← HC.out.1, HRX.out]; simp, by first | exact HC.out.2.alloc _ | exact (HC.out.2.alloc _).trans HU2.out (fun _ _ h => h)⟩⟩
        · obtain rfl : j = sl.length := by omega
          have HP := As.mk HC.out.2
          cases bb
          · have e := HV1.out (fun h => by have := HC.out.1.2 h; cases this)
            subst e
            clear HC
            go_wp2
            go_ret
            exact ⟨rfl, HP.out⟩
          · have e := HV0.out (HC.out.1.1 rfl)
            subst e
            clear HC
            go_wp2
            go_ret
            exact ⟨rfl, HP.out⟩
set_option maxRecDepth 100000 in
set_option maxHeartbeats 4000000 in
theorem sc_mark_nil {w : World} {F : Nat → Prop} {A : Option Addr} {c : Nat} {k fr tt gf gt ins mk : Int}  (hk : k = 2 ∨ k = 3) :
    Calls Tryz.prog 119 #[(StepD.mk k fr tt gf gt ins [] mk).val A c] w fun r w' => r = .returned (.int .i64 (if (StepD.mk k fr tt gf gt ins [] mk).ok then 0 else 1)) ∧ Pure w w' := by
  have hL1 : (((listL mk 3).length : Int) == 1) = decide (markOne mk) := by
    rw [Bool.eq_iff_iff, beq_iff_eq, decide_eq_true_eq, ← list_one]
    omega
  have HBB := As.mk (show (∀ (B : Prop), (B ↔ ((0 ≤ fr ∧ fr ≤ tt ∧ tt ≤ 2048) ∧ fr < tt ∧ markOne mk ∧ gf = 0 ∧ gt = 0 ∧ ins = 0)) → ((StepD.mk k fr tt gf gt ins [] mk).ok ↔ okTo B [] ([] : List Tok).length)) from fun B hB => by
    rw [okTo_all, hB]
    unfold StepD.ok StepD.kindOk
    constructor
    · rintro ⟨h1, h2, h3, h4, h5⟩
      refine ⟨?_, h5⟩
      dsimp only at h1 h2 h3 h4
      rcases h4 with h4 | h4 | h4
      · exact absurd h4.1 (by omega)
      · exact absurd h4.1 (by omega)
      · exact ⟨⟨h1, h2, h3⟩, h4.2.1, h4.2.2.1, h4.2.2.2.2⟩
    · rintro ⟨h1, h5⟩
      exact ⟨h1.1.1, h1.1.2.1, h1.1.2.2, .inr (.inr ⟨hk, h1.2.1, h1.2.2.1, rfl, h1.2.2.2⟩), h5⟩)
  obtain ⟨B, hB⟩ : ∃ B : Prop, B ↔ ((0 ≤ fr ∧ fr ≤ tt ∧ tt ≤ 2048) ∧ fr < tt ∧ markOne mk ∧ gf = 0 ∧ gt = 0 ∧ ins = 0) := ⟨_, Iff.rfl⟩
  have HOK := As.mk (HBB.out B hB)
  clear HBB
  obtain ⟨V, hV⟩ : ∃ V : Int, V = (if (StepD.mk k fr tt gf gt ins [] mk).ok then 0 else 1) := ⟨_, rfl⟩
  rw [← hV]
  have HV0 := As.mk (show okTo B [] ([] : List Tok).length → V = 0 from fun h => by rw [hV, if_pos (HOK.out.2 h)])
  have HV1 := As.mk (show ¬ okTo B [] ([] : List Tok).length → V = 1 from fun h => by rw [hV, if_neg (fun h2 => h (HOK.out.1 h2))])
  clear hV HOK
  unfold StepD.val
  try simp only
  have f1 : (k == 1) = false := by rcases hk with rfl | rfl <;> rfl
  have f0 : (k == 0) = false := by rcases hk with rfl | rfl <;> rfl
  have f23 : (k == 2) = true ∨ ((k == 2) = false ∧ (k == 3) = true) := by rcases hk with rfl | rfl <;> simp
  skip
  clear hk
  rcases f23 with f2 | ⟨f2, f3⟩
  all_goals skip
  all_goals cases hmo : decide (markOne mk)
  all_goals
    rw [hmo] at hL1
    have HMO := As.mk hmo
    have HBI := As.mk hB
    clear hmo hB
    go_enter Tryz.func119, Tryz.ntmps119
    go_wp2_with (go_at_call 158; refine (List_calls _ _).mono ?_; rintro e w1 ⟨⟨A1, c1, rfl⟩, hu⟩; have HU1 := As.mk hu; obtain ⟨oc, of⟩ := hu.olds; have hz1 := hu.size; clear hu)
    all_goals
      go_loopg [4, 123] ([] : List Tok).length (fun gg v4 iv wr => ∃ (j : Nat) (bb : Bool), j + gg = ([] : List Tok).length ∧ iv = .int .i64 j ∧ v4 = .bool bb ∧ As ((bb = true ↔ okTo B [] j) ∧ Pure w wr))
      case atStart => exact ⟨0, _, by simp, rfl, rfl, ⟨by
        rw [okTo_zero, HBI.out]
        have h9 := HMO.out
        simp only [decide_eq_true_eq, decide_eq_false_iff_not] at h9
        skip
        simp only [Bool.false_eq_true, true_iff, false_iff, iff_true, iff_false, h9, true_and, and_true, false_and, and_false, not_false_eq_true, decide_eq_true_eq, beq_iff_eq]
        try omega, (by repeat (first | exact Upd.refl _ _ | exact HU1.out | (refine Upd.alloc ?_ _) | (refine Upd.setCell ?_ (by intro h; simp at h; try omega) _) | (refine Upd.drew ?_) | (refine Upd.drewN ?_ _) | (refine Upd.trans ?_ HU1.out (fun _ _ h => h))))⟩⟩
      case round =>
        obtain ⟨j, bb, hj, rfl, rfl, HC⟩ := hrel
        obtain rfl : j = 0 := by simp at hj; omega
        have HP := As.mk HC.out.2
        cases bb
        · have e := HV1.out (fun h => by have := HC.out.1.2 h; cases this)
          subst e
          clear HC
          go_wp2
          go_ret
          exact ⟨rfl, HP.out⟩
        · have e := HV0.out (HC.out.1.1 rfl)
          subst e
          clear HC
          go_wp2
          go_ret
          exact ⟨rfl, HP.out⟩
set_option maxRecDepth 100000 in
set_option maxHeartbeats 4000000 in
theorem sc_mark_ne {w : World} {F : Nat → Prop} {A : Option Addr} {c : Nat} {k fr tt gf gt ins mk : Int} {sl : List Tok} (hr : tokR.row w F A sl) (hb : sl.length ≤ 2048) (hk : k = 2 ∨ k = 3) (hs : sl.length ≠ 0) :
    Calls Tryz.prog 119 #[(StepD.mk k fr tt gf gt ins sl mk).val A c] w fun r w' => r = .returned (.int .i64 (if (StepD.mk k fr tt gf gt ins sl mk).ok then 0 else 1)) ∧ Pure w w' := by
  have HR := As.mk hr
  have hL1 : (((listL mk 3).length : Int) == 1) = decide (markOne mk) := by
    rw [Bool.eq_iff_iff, beq_iff_eq, decide_eq_true_eq, ← list_one]
    omega
  have HBB := As.mk (show (∀ (B : Prop), (B ↔ False) → ((StepD.mk k fr tt gf gt ins sl mk).ok ↔ okTo B sl sl.length)) from fun B hB => by
    rw [okTo_all, hB]
    unfold StepD.ok StepD.kindOk
    constructor
    · rintro ⟨h1, h2, h3, h4, h5⟩
      refine ⟨?_, h5⟩
      dsimp only at h1 h2 h3 h4
      rcases h4 with h4 | h4 | h4
      · exact absurd h4.1 (by omega)
      · exact absurd h4.1 (by omega)
      · exact hs (by rw [h4.2.2.2.1]; rfl)
    · rintro ⟨h1, h5⟩
      exact h1.elim)
  obtain ⟨B, hB⟩ : ∃ B : Prop, B ↔ False := ⟨_, Iff.rfl⟩
  have HOK := As.mk (HBB.out B hB)
  clear hr HBB
  obtain ⟨V, hV⟩ : ∃ V : Int, V = (if (StepD.mk k fr tt gf gt ins sl mk).ok then 0 else 1) := ⟨_, rfl⟩
  rw [← hV]
  have HV0 := As.mk (show okTo B sl sl.length → V = 0 from fun h => by rw [hV, if_pos (HOK.out.2 h)])
  have HV1 := As.mk (show ¬ okTo B sl sl.length → V = 1 from fun h => by rw [hV, if_neg (fun h2 => h (HOK.out.1 h2))])
  clear hV HOK
  unfold StepD.val
  try simp only
  have f1 : (k == 1) = false := by rcases hk with rfl | rfl <;> rfl
  have f0 : (k == 0) = false := by rcases hk with rfl | rfl <;> rfl
  have f23 : (k == 2) = true ∨ ((k == 2) = false ∧ (k == 3) = true) := by rcases hk with rfl | rfl <;> simp
  have e9 : ((sl.length : Int) == 0) = false := by rw [beq_eq_false_iff_ne]; omega
  clear hk
  rcases f23 with f2 | ⟨f2, f3⟩
  all_goals skip
  all_goals cases hmo : decide (markOne mk)
  all_goals
    rw [hmo] at hL1
    have HMO := As.mk hmo
    have HBI := As.mk hB
    clear hmo hB
    go_enter Tryz.func119, Tryz.ntmps119
    go_wp2_with (go_at_call 158; refine (List_calls _ _).mono ?_; rintro e w1 ⟨⟨A1, c1, rfl⟩, hu⟩; have HU1 := As.mk hu; obtain ⟨oc, of⟩ := hu.olds; have hz1 := hu.size; clear hu)
    all_goals
      go_loopg [4, 123] sl.length (fun gg v4 iv wr => ∃ (j : Nat) (bb : Bool), j + gg = sl.length ∧ iv = .int .i64 j ∧ v4 = .bool bb ∧ As ((bb = true ↔ okTo B sl j) ∧ Pure w wr))
      case atStart => exact ⟨0, _, by omega, rfl, rfl, ⟨by
        rw [okTo_zero, HBI.out]
        have h9 := HMO.out
        simp only [decide_eq_true_eq, decide_eq_false_iff_not] at h9
        have hlen : 0 ≤ (sl.length : Int) := by omega
        simp only [Bool.false_eq_true, true_iff, false_iff, iff_true, iff_false, h9, true_and, and_true, false_and, and_false, not_false_eq_true, decide_eq_true_eq, beq_iff_eq]
        try omega, (by repeat (first | exact Upd.refl _ _ | exact HU1.out | (refine Upd.alloc ?_ _) | (refine Upd.setCell ?_ (by intro h; simp at h; try omega) _) | (refine Upd.drew ?_) | (refine Upd.drewN ?_ _) | (refine Upd.trans ?_ HU1.out (fun _ _ h => h))))⟩⟩
      case round =>
        obtain ⟨j, bb, hj, rfl, rfl, HC⟩ := hrel
        by_cases hlt : j < sl.length
        · obtain ⟨x, hx⟩ : ∃ x, sl[j]? = some x := ⟨_, List.getElem?_eq_getElem hlt⟩
          obtain ⟨b, o, rfl, hF, hbl, d0, d1, d2, d3⟩ := tok_at (Rp.row_pure HR.out HC.out.2) hx
          obtain ⟨g1, rfl⟩ : ∃ m, gk = m + 1 := ⟨gk - 1, by omega⟩
          have HS := As.mk (okTo_succ (B := B) hx)
          clear hx
          cases hrx : rightB x <;> cases bb
          all_goals
            have HRX := As.mk hrx
            clear hrx
            go_wp2_with (go_at_call 107; refine (flatRight_is HRX.out _).mono ?_; rintro e w2 ⟨rfl, hu2⟩; have HU2 := As.mk hu2; clear hu2)
            go_roundg g1
            case measure => omega
            case rel => exact ⟨j + 1, _, by omega, by go_num, rfl, ⟨by rw [HS.out, ← HC.out.1, HRX.out]; simp, by first | exact HC.out.2.alloc _ | exact (HC.out.2.alloc _).trans HU2.out (fun _ _ h => h)⟩⟩
        · obtain rfl : j = sl.length := by omega
          have HP := As.mk HC.out.2
          cases bb
          · have e := HV1.out (fun h => by have := HC.out.1.2 h; cases this)
            subst e
            clear HC
            go_wp2
            go_ret
            exact ⟨rfl, HP.out⟩
          · have e := HV0.out (HC.out.1.1 rfl)
            subst e
            clear HC
            go_wp2
            go_ret
            exact ⟨rfl, HP.out⟩
set_option maxRecDepth 100000 in
set_option maxHeartbeats 4000000 in
theorem sc_other {w : World} {F : Nat → Prop} {A : Option Addr} {c : Nat} {k fr tt gf gt ins mk : Int} {sl : List Tok} (hr : tokR.row w F A sl) (hb : sl.length ≤ 2048) (hk : k ≠ 0 ∧ k ≠ 1 ∧ k ≠ 2 ∧ k ≠ 3) :
    Calls Tryz.prog 119 #[(StepD.mk k fr tt gf gt ins sl mk).val A c] w fun r w' => r = .returned (.int .i64 (if (StepD.mk k fr tt gf gt ins sl mk).ok then 0 else 1)) ∧ Pure w w' := by
  have HR := As.mk hr
  have hL1 : (((listL mk 3).length : Int) == 1) = decide (markOne mk) := by
    rw [Bool.eq_iff_iff, beq_iff_eq, decide_eq_true_eq, ← list_one]
    omega
  have HBB := As.mk (show (∀ (B : Prop), (B ↔ False) → ((StepD.mk k fr tt gf gt ins sl mk).ok ↔ okTo B sl sl.length)) from fun B hB => by
    rw [okTo_all, hB]
    unfold StepD.ok StepD.kindOk
    constructor
    · rintro ⟨h1, h2, h3, h4, h5⟩
      refine ⟨?_, h5⟩
      dsimp only at h1 h2 h3 h4
      rcases h4 with h4 | h4 | h4
      · exact absurd h4.1 (by omega)
      · exact absurd h4.1 (by omega)
      · exact absurd h4.1 (by omega)
    · rintro ⟨h1, h5⟩
      exact h1.elim)
  obtain ⟨B, hB⟩ : ∃ B : Prop, B ↔ False := ⟨_, Iff.rfl⟩
  have HOK := As.mk (HBB.out B hB)
  clear hr HBB
  obtain ⟨V, hV⟩ : ∃ V : Int, V = (if (StepD.mk k fr tt gf gt ins sl mk).ok then 0 else 1) := ⟨_, rfl⟩
  rw [← hV]
  have HV0 := As.mk (show okTo B sl sl.length → V = 0 from fun h => by rw [hV, if_pos (HOK.out.2 h)])
  have HV1 := As.mk (show ¬ okTo B sl sl.length → V = 1 from fun h => by rw [hV, if_neg (fun h2 => h (HOK.out.1 h2))])
  clear hV HOK
  unfold StepD.val
  try simp only
  have f1 : (k == 1) = false := by simpa using hk.2.1
  have f0 : (k == 0) = false := by simpa using hk.1
  have f2 : (k == 2) = false := by simpa using hk.2.2.1
  have f3 : (k == 3) = false := by simpa using hk.2.2.2
  clear hk
  all_goals cases hmo : decide (markOne mk)
  all_goals
    rw [hmo] at hL1
    have HMO := As.mk hmo
    have HBI := As.mk hB
    clear hmo hB
    go_enter Tryz.func119, Tryz.ntmps119
    go_wp2_with (go_at_call 158; refine (List_calls _ _).mono ?_; rintro e w1 ⟨⟨A1, c1, rfl⟩, hu⟩; have HU1 := As.mk hu; obtain ⟨oc, of⟩ := hu.olds; have hz1 := hu.size; clear hu)
    all_goals
      go_loopg [4, 123] sl.length (fun gg v4 iv wr => ∃ (j : Nat) (bb : Bool), j + gg = sl.length ∧ iv = .int .i64 j ∧ v4 = .bool bb ∧ As ((bb = true ↔ okTo B sl j) ∧ Pure w wr))
      case atStart => exact ⟨0, _, by omega, rfl, rfl, ⟨by
        rw [okTo_zero, HBI.out]
        have h9 := HMO.out
        simp only [decide_eq_true_eq, decide_eq_false_iff_not] at h9
        have hlen : 0 ≤ (sl.length : Int) := by omega
        simp only [Bool.false_eq_true, true_iff, false_iff, iff_true, iff_false, h9, true_and, and_true, false_and, and_false, not_false_eq_true, decide_eq_true_eq, beq_iff_eq]
        try omega, (by repeat (first | exact Upd.refl _ _ | exact HU1.out | (refine Upd.alloc ?_ _) | (refine Upd.setCell ?_ (by intro h; simp at h; try omega) _) | (refine Upd.drew ?_) | (refine Upd.drewN ?_ _) | (refine Upd.trans ?_ HU1.out (fun _ _ h => h))))⟩⟩
      case round =>
        obtain ⟨j, bb, hj, rfl, rfl, HC⟩ := hrel
        by_cases hlt : j < sl.length
        · obtain ⟨x, hx⟩ : ∃ x, sl[j]? = some x := ⟨_, List.getElem?_eq_getElem hlt⟩
          obtain ⟨b, o, rfl, hF, hbl, d0, d1, d2, d3⟩ := tok_at (Rp.row_pure HR.out HC.out.2) hx
          obtain ⟨g1, rfl⟩ : ∃ m, gk = m + 1 := ⟨gk - 1, by omega⟩
          have HS := As.mk (okTo_succ (B := B) hx)
          clear hx
          cases hrx : rightB x <;> cases bb
          all_goals
            have HRX := As.mk hrx
            clear hrx
            go_wp2_with (go_at_call 107; refine (flatRight_is HRX.out _).mono ?_; rintro e w2 ⟨rfl, hu2⟩; have HU2 := As.mk hu2; clear hu2)
            go_roundg g1
            case measure => omega
            case rel => exact ⟨j + 1, _, by omega, by go_num, rfl, ⟨by rw [HS.out, ← HC.out.1, HRX.out]; simp, by first | exact HC.out.2.alloc _ | exact (HC.out.2.alloc _).trans HU2.out (fun _ _ h => h)⟩⟩
        · obtain rfl : j = sl.length := by omega
          have HP := As.mk HC.out.2
          cases bb
          · have e := HV1.out (fun h => by have := HC.out.1.2 h; cases this)
            subst e
            clear HC
            go_wp2
            go_ret
            exact ⟨rfl, HP.out⟩
          · have e := HV0.out (HC.out.1.1 rfl)
            subst e
            clear HC
            go_wp2
            go_ret
            exact ⟨rfl, HP.out⟩
end Go.Proofs.YtfapglhdakhbeaaGreatDoor
