/- Commands, plain: marks put on, or taken off. Sets of marks: place, may, Has, Add, Take, List. mark.List: how many. -/
import Derived.Test.YteeindicpbcjaaaGreatDoorEditQ
import Derived.Test.YteeindicpbcjaaaGreatDoorFlatC
import Derived.Test.YteeindicpbcjaaaGreatDoorStack
namespace Go.Proofs.YteeindicpbcjaaaGreatDoor
open Go.RowKit
set_option linter.unusedVariables false
set_option linter.unusedSimpArgs false

/-- Is a mark in a set? -/
def bitP (set m : Int) : Prop := (m = 1 ∧ (set = 1 ∨ set = 3)) ∨ (m = 2 ∧ (set = 2 ∨ set = 3)) ∨ (m = 4 ∧ set = 4)
instance (set m : Int) : Decidable (bitP set m) := by unfold bitP; infer_instance
def markS (k a b m : Int) : StepD := ⟨k, a, b, 0, 0, 0, [], m⟩
theorem markS_ok {k a b m : Int} (hk : k = 2 ∨ k = 3) : (markS k a b m).ok ↔ 0 ≤ a ∧ a < b ∧ b ≤ 2048 ∧ markOne m := by
  unfold StepD.ok StepD.kindOk markS
  constructor
  · rintro ⟨h1, h2, h3, h4, h5⟩
    simp only at h1 h2 h3 h4
    rcases h4 with h4 | h4 | h4
    · omega
    · omega
    · exact ⟨h1, h4.2.1, h3, h4.2.2.1⟩
  · rintro ⟨h1, h2, h3, h4⟩
    exact ⟨h1, by simp only; omega, h3, .inr (.inr ⟨hk, h2, h4, rfl, rfl, rfl, rfl⟩), fun x hx => by cases hx⟩
theorem turn_take {set m : Int} (hm : markOne m) (hs : 0 ≤ set ∧ set ≤ 4) : ¬ bitP (turnM 3 m set) m := by
  unfold turnM bitP
  rw [if_pos rfl]
  rcases hm with rfl | rfl | rfl <;> split <;> omega
theorem turn_add {set m : Int} (hm : markOne m) (hs : 0 ≤ set ∧ set ≤ 4) : bitP (turnM 2 m set) m ∨ turnM 2 m set = 4 := by
  unfold turnM bitP
  rw [if_neg (by decide)]
  rcases hm with rfl | rfl | rfl <;> split <;> first | omega | (split <;> omega)
theorem turn_in {k set m : Int} (hm : markOne m) (hs : 0 ≤ set ∧ set ≤ 4) : 0 ≤ turnM k m set ∧ turnM k m set ≤ 4 := by
  unfold turnM
  rcases hm with rfl | rfl | rfl <;> split <;> split <;> first | omega | (split <;> omega)
theorem right_mark {x : Tok} (h : rightB x = true) (h0 : x.k = 0) : 0 ≤ x.m ∧ x.m ≤ 4 := by
  have h := of_decide_eq_true h
  simp only [RightP, MarkP] at h
  omega
theorem right_turn {x : Tok} {k m : Int} (hm : markOne m) (h : rightB x = true) : rightB (turnT k m x) = true := by
  unfold turnT
  split
  · rename_i h0
    have h1 := right_mark h h0
    have h2 := turn_in (k := k) hm h1
    have h3 : RightP x := of_decide_eq_true h
    unfold rightB
    rw [decide_eq_true_eq]
    rcases h3 with h3 | h3 | h3
    · exact .inl ⟨h3.1, h3.2.1, h3.2.2.1, h2⟩
    · exact absurd h3.1 (by omega)
    · exact absurd h3.1 (by omega)
  · exact h
theorem textB_turn {k m : Int} (hm : markOne m) : ∀ l : List Tok, (∀ x ∈ l, rightB x = true) → textB (l.map (turnT k m)) = textB l := by
  intro l
  induction l with
  | nil => intro _; rfl
  | cons x r ih =>
    intro h
    have hx := h x List.mem_cons_self
    have hr := ih (fun y hy => h y (List.mem_cons_of_mem _ hy))
    rw [List.map_cons, show turnT k m x :: r.map (turnT k m) = [turnT k m x] ++ r.map (turnT k m) from rfl, show x :: r = [x] ++ r from rfl, textB_app, textB_app, hr]
    congr 1
    unfold textB
    have e1 : (turnT k m x).k = x.k := by unfold turnT; split <;> rfl
    have e2 : (turnT k m x).n = x.n := by unfold turnT; split <;> rfl
    simp [List.filter_cons, right_turn hm hx, hx, e1]
    by_cases h0 : x.k = 0
    · simp [h0, e2]
    · simp [h0]
/-- What EditToggles says, plain. -/
theorem toggles_plain {l : List Tok} {k a b m : Int} (hk : k = 2 ∨ k = 3) (hm : markOne m) (hr : ∀ x ∈ l, rightB x = true) (hab : 0 ≤ a ∧ a ≤ b ∧ b ≤ l.length) :
    (stepDo l (markS k a b m)).length = l.length ∧ textB (stepDo l (markS k a b m)) = textB l ∧
    ∀ i : Nat, a ≤ i → (i : Int) < b → ∃ y, l[i]? = some y ∧ (stepDo l (markS k a b m))[i]? = some (turnT k m y) := by
  have hdo : stepDo l (markS k a b m) = l.take a.toNat ++ ((l.take b.toNat).drop a.toNat).map (turnT k m) ++ l.drop b.toNat := by
    unfold stepDo markS
    simp only
    rw [if_neg (by omega), if_neg (by omega)]
  have h1 : (l.take a.toNat).length = a.toNat := by rw [List.length_take]; omega
  have h2 : ((l.take b.toNat).drop a.toNat).length = b.toNat - a.toNat := by rw [List.length_drop, List.length_take]; omega
  have hparts : l = l.take a.toNat ++ (l.take b.toNat).drop a.toNat ++ l.drop b.toNat := by
    have e : l.take a.toNat ++ (l.take b.toNat).drop a.toNat = l.take b.toNat := by
      conv => rhs; rw [← List.take_append_drop a.toNat (l.take b.toNat)]
      rw [List.take_take]
      congr 2
      omega
    rw [e, List.take_append_drop]
  refine ⟨?_, ?_, fun i hi1 hi2 => ?_⟩
  · rw [hdo]
    simp only [List.length_append, List.length_map, h1, h2, List.length_drop]
    omega
  · rw [hdo, textB_app, textB_app, textB_turn hm]
    · conv => rhs; rw [hparts]
      rw [textB_app, textB_app]
    · intro x hx
      exact hr x (List.mem_of_mem_take (List.mem_of_mem_drop hx))
  · have hlt : i < l.length := by omega
    refine ⟨l[i], List.getElem?_eq_getElem hlt, ?_⟩
    rw [hdo, List.append_assoc, List.getElem?_append_right (by omega), h1, List.getElem?_append_left (by rw [List.length_map, h2]; omega), List.getElem?_map, List.getElem?_drop, List.getElem?_take, if_pos (by omega), show a.toNat + (i - a.toNat) = i by omega, List.getElem?_eq_getElem hlt]
    rfl
end Go.Proofs.YteeindicpbcjaaaGreatDoor
namespace Go.Proofs.YteeindicpbcjaaaGreatDoor
open Go.RowKit
set_option linter.unusedVariables false
set_option linter.unusedSimpArgs false

def placeV (m : Int) : Int := if m = 1 then 0 else if m = 2 then 1 else if m = 4 then 2 else 3
set_option maxRecDepth 100000 in
set_option maxHeartbeats 4000000 in
theorem place_calls (m : Int) (w : World) : Calls Tryz.prog 91 #[.int .i64 m] w fun r w' => r = .returned (.int .i64 (placeV m)) ∧ w' = w := by
  by_cases h1 : m = 1
  · subst h1
    go_enter Tryz.func91, Tryz.ntmps91
    go_wp2
    refine wp_loop_rounds 1 ?_
    rw [rounds_succ]
    go_wp2
    go_ret
    exact ⟨rfl, rfl⟩
  · by_cases h2 : m = 2
    · subst h2
      go_enter Tryz.func91, Tryz.ntmps91
      go_wp2
      refine wp_loop_rounds 2 ?_
      rw [rounds_succ]
      go_wp2
      rw [rounds_succ]
      go_wp2
      go_ret
      exact ⟨rfl, rfl⟩
    · by_cases h4 : m = 4
      · subst h4
        go_enter Tryz.func91, Tryz.ntmps91
        go_wp2
        refine wp_loop_rounds 3 ?_
        rw [rounds_succ]
        go_wp2
        rw [rounds_succ]
        go_wp2
        rw [rounds_succ]
        go_wp2
        go_ret
        exact ⟨rfl, rfl⟩
      · have hv : placeV m = 3 := by unfold placeV; rw [if_neg h1, if_neg h2, if_neg h4]
        rw [hv]
        have e1 : (m == 1) = false := by simpa using h1
        have e2 : (m == 2) = false := by simpa using h2
        have e4 : (m == 4) = false := by simpa using h4
        clear h1 h2 h4 hv
        go_enter Tryz.func91, Tryz.ntmps91
        go_wp2
        refine wp_loop_rounds 4 ?_
        rw [rounds_succ]
        go_wp2
        rw [rounds_succ]
        go_wp2
        rw [rounds_succ]
        go_wp2
        rw [rounds_succ]
        go_wp2
        go_ret
        exact ⟨rfl, rfl⟩
def mayV (set m : Int) : Int := if ¬ markOne m then 1 else if ¬ (0 ≤ set ∧ set ≤ 4) then 4 else 0
theorem place_three (m : Int) : (placeV m == 3) = !decide (markOne m) := by
  by_cases h : markOne m
  · rcases h with rfl | rfl | rfl <;> decide
  · have h1 : m ≠ 1 ∧ m ≠ 2 ∧ m ≠ 4 := by unfold markOne at h; omega
    simp [placeV, h1, h]
set_option maxRecDepth 100000 in
set_option maxHeartbeats 4000000 in
theorem mmay_calls (set m : Int) (w : World) : Calls Tryz.prog 74 #[.int .i64 set, .int .i64 m] w fun r w' => r = .returned (.int .i64 (mayV set m)) ∧ w' = w := by
  have hp := place_three m
  by_cases h1 : markOne m
  · have hd : decide (markOne m) = true := by simpa using h1
    rw [hd] at hp
    by_cases h2 : 0 ≤ set ∧ set ≤ 4
    · have hb : markB set = true := decide_eq_true (show MarkP set from h2)
      have hv : mayV set m = 0 := by unfold mayV; rw [if_neg (by simpa using h1), if_neg (by simpa using h2)]
      rw [hv]
      have HR := As.mk (markRight_calls set)
      rw [hb] at HR
      have HP := As.mk (place_calls m)
      generalize placeV m = pv at *
      clear h1 h2 hd hb hv
      go_enter Tryz.func74, Tryz.ntmps74
      go_wp2_with (first | (go_at_call 91; refine (HP.out _).mono ?_; rintro e w' ⟨rfl, rfl⟩) | (go_at_call 73; refine (HR.out _).mono ?_; rintro e w' ⟨rfl, rfl⟩))
      go_ret
      exact ⟨rfl, rfl⟩
    · have hb : markB set = false := decide_eq_false (show ¬ MarkP set from h2)
      have hv : mayV set m = 4 := by unfold mayV; rw [if_neg (by simpa using h1), if_pos h2]
      rw [hv]
      have HR := As.mk (markRight_calls set)
      rw [hb] at HR
      have HP := As.mk (place_calls m)
      generalize placeV m = pv at *
      clear h1 h2 hd hb hv
      go_enter Tryz.func74, Tryz.ntmps74
      go_wp2_with (first | (go_at_call 91; refine (HP.out _).mono ?_; rintro e w' ⟨rfl, rfl⟩) | (go_at_call 73; refine (HR.out _).mono ?_; rintro e w' ⟨rfl, rfl⟩))
      go_ret
      exact ⟨rfl, rfl⟩
  · have hd : decide (markOne m) = false := by simpa using h1
    rw [hd] at hp
    have hv : mayV set m = 1 := by unfold mayV; rw [if_pos h1]
    rw [hv]
    have HP := As.mk (place_calls m)
    generalize placeV m = pv at *
    clear h1 hd hv
    go_enter Tryz.func74, Tryz.ntmps74
    go_wp2_with (go_at_call 91; refine (HP.out _).mono ?_; rintro e w' ⟨rfl, rfl⟩)
    go_ret
    exact ⟨rfl, rfl⟩
def hasP (set m : Int) : Prop := markOne m ∧ (0 ≤ set ∧ set ≤ 4) ∧ bitP set m
instance (set m : Int) : Decidable (hasP set m) := by unfold hasP; infer_instance
theorem may_zero {set m : Int} : mayV set m = 0 ↔ markOne m ∧ 0 ≤ set ∧ set ≤ 4 := by
  unfold mayV
  constructor
  · intro h
    split at h
    · omega
    · rename_i h1
      split at h
      · omega
      · rename_i h2
        exact ⟨by simpa using h1, by omega⟩
  · rintro ⟨h1, h2⟩
    rw [if_neg (by simpa using h1), if_neg (by simpa using h2)]
theorem five {set : Int} (h : 0 ≤ set ∧ set ≤ 4) : set = 0 ∨ set = 1 ∨ set = 2 ∨ set = 3 ∨ set = 4 := by omega
set_option maxRecDepth 100000 in
set_option maxHeartbeats 4000000 in
theorem Has_calls (set m : Int) (w : World) : Calls Tryz.prog 47 #[.int .i64 set, .int .i64 m] w fun r w' => r = .returned (.bool (decide (hasP set m))) ∧ w' = w := by
  have HM := As.mk (mmay_calls set m)
  by_cases h : mayV set m = 0
  · rw [h] at HM
    obtain ⟨h1, h2⟩ := may_zero.1 h
    clear h
    rcases h1 with rfl | rfl | rfl <;> rcases five h2 with rfl | rfl | rfl | rfl | rfl
    all_goals
      clear h2
      go_enter Tryz.func47, Tryz.ntmps47
      go_wp2_with (go_at_call 74; refine (HM.out _).mono ?_; rintro e w' ⟨rfl, rfl⟩)
      go_ret
      exact ⟨by first | rfl | (congr 2; decide), rfl⟩
  · have hv : decide (hasP set m) = false := by
      rw [decide_eq_false_iff_not]
      exact fun h9 => h (may_zero.2 ⟨h9.1, h9.2.1⟩)
    rw [hv]
    have e : (mayV set m == 0) = false := by simpa using h
    generalize mayV set m = mv at *
    clear h hv
    go_enter Tryz.func47, Tryz.ntmps47
    go_wp2_with (go_at_call 74; refine (HM.out _).mono ?_; rintro e w' ⟨rfl, rfl⟩)
    go_ret
    exact ⟨rfl, rfl⟩
set_option maxRecDepth 100000 in
set_option maxHeartbeats 4000000 in
theorem Add_calls (set m : Int) (w : World) : Calls Tryz.prog 46 #[.int .i64 set, .int .i64 m] w fun r w' => r = .returned (.tuple #[.int .i64 (if mayV set m = 0 then turnM 2 m set else 0), .int .i64 (mayV set m)]) ∧ w' = w := by
  have HM := As.mk (mmay_calls set m)
  by_cases h : mayV set m = 0
  · rw [h] at HM ⊢
    obtain ⟨h1, h2⟩ := may_zero.1 h
    clear h
    rw [if_pos rfl]
    rcases h1 with rfl | rfl | rfl <;> rcases five h2 with rfl | rfl | rfl | rfl | rfl
    all_goals
      clear h2
      go_enter Tryz.func46, Tryz.ntmps46
      go_wp2_with (go_at_call 74; refine (HM.out _).mono ?_; rintro e w' ⟨rfl, rfl⟩)
      go_ret2
      exact ⟨by first | rfl | decide, rfl⟩
  · have e : (mayV set m != 0) = true := by simpa using h
    rw [if_neg h]
    generalize mayV set m = mv at *
    clear h
    go_enter Tryz.func46, Tryz.ntmps46
    go_wp2_with (go_at_call 74; refine (HM.out _).mono ?_; rintro e w' ⟨rfl, rfl⟩)
    go_ret2
    exact ⟨rfl, rfl⟩
set_option maxRecDepth 100000 in
set_option maxHeartbeats 4000000 in
theorem Take_calls (set m : Int) (w : World) : Calls Tryz.prog 72 #[.int .i64 set, .int .i64 m] w fun r w' => r = .returned (.tuple #[.int .i64 (if mayV set m = 0 then turnM 3 m set else 0), .int .i64 (mayV set m)]) ∧ w' = w := by
  have HM := As.mk (mmay_calls set m)
  by_cases h : mayV set m = 0
  · rw [h] at HM ⊢
    obtain ⟨h1, h2⟩ := may_zero.1 h
    clear h
    rw [if_pos rfl]
    rcases h1 with rfl | rfl | rfl <;> rcases five h2 with rfl | rfl | rfl | rfl | rfl
    all_goals
      clear h2
      go_enter Tryz.func72, Tryz.ntmps72
      go_wp2_with (go_at_call 74; refine (HM.out _).mono ?_; rintro e w' ⟨rfl, rfl⟩)
      go_ret2
      exact ⟨by first | rfl | decide, rfl⟩
  · have e : (mayV set m != 0) = true := by simpa using h
    rw [if_neg h]
    generalize mayV set m = mv at *
    clear h
    go_enter Tryz.func72, Tryz.ntmps72
    go_wp2_with (go_at_call 74; refine (HM.out _).mono ?_; rintro e w' ⟨rfl, rfl⟩)
    go_ret2
    exact ⟨rfl, rfl⟩
end Go.Proofs.YteeindicpbcjaaaGreatDoor
namespace Go.Proofs.YteeindicpbcjaaaGreatDoor
open Go.RowKit
set_option linter.unusedVariables false
set_option linter.unusedSimpArgs false

def listL (set : Int) (k : Nat) : List Int := (([1, 2, 4] : List Int).take k).filter (fun m => decide (hasP set m))
theorem listL_len (set : Int) (k : Nat) : (listL set k).length ≤ 3 := by
  unfold listL
  refine Nat.le_trans (List.length_filter_le _ _) ?_
  rw [List.length_take]
  simp
  omega
theorem list_one (set : Int) : ((listL set 3).length = 1) ↔ markOne set := by
  by_cases h : 0 ≤ set ∧ set ≤ 4
  · rcases five h with rfl | rfl | rfl | rfl | rfl <;> decide
  · have h1 : ∀ m, decide (hasP set m) = false := fun m => decide_eq_false (fun h2 => h h2.2.1)
    have h2 : listL set 3 = [] := by
      unfold listL
      rw [List.filter_eq_nil_iff]
      intro a _
      rw [h1]
      simp
    rw [h2]
    unfold markOne
    constructor
    · intro h3; cases h3
    · intro h3; omega
set_option maxRecDepth 100000 in
set_option maxHeartbeats 4000000 in
theorem List_calls (set : Int) (w : World) : Calls Tryz.prog 70 #[.int .i64 set] w fun r w' => (∃ A c, r = .returned (.slice A (listL set 3).length c)) ∧ Pure w w' := by
  have HM := As.mk (fun m w => Has_calls set m w)
  go_enter Tryz.func70, Tryz.ntmps70
  go_wp2
  go_loopg [3, 4] 3 (fun gg v kv wr => ∃ k : Nat, k + gg = 3 ∧ kv = .int .i64 k ∧ As (intRS.own 3 wr (fun q => w.heap.size ≤ q) v (listL set k) ∧ Pure w wr))
  case atStart => exact ⟨0, by omega, rfl, ⟨Rp.own_nil _ _ _ _, Upd.refl _ _⟩⟩
  case round =>
    obtain ⟨k, hk, rfl, HS⟩ := hrel
    have hcase : k = 3 ∨ ∃ m : Int, (k = 0 ∧ m = 1 ∨ k = 1 ∧ m = 2 ∨ k = 2 ∧ m = 4) := by
      rcases (by omega : k = 0 ∨ k = 1 ∨ k = 2 ∨ k = 3) with h | h | h | h
      · exact .inr ⟨1, .inl ⟨h, rfl⟩⟩
      · exact .inr ⟨2, .inr (.inl ⟨h, rfl⟩)⟩
      · exact .inr ⟨4, .inr (.inr ⟨h, rfl⟩)⟩
      · exact .inl h
    rcases hcase with rfl | ⟨m, hm⟩
    · obtain ⟨A, c, rfl, _, _⟩ := Rp.own_slice HS.out.1
      go_wp2
      go_ret
      exact ⟨⟨_, _, rfl⟩, HS.out.2⟩
    · obtain ⟨ho, hp⟩ := HS.out
      have HO := As.mk ho
      have HP := As.mk hp
      have hll := listL_len set k
      obtain ⟨g1, rfl⟩ : ∃ m, gk = m + 1 := ⟨gk - 1, by omega⟩
      have HMM := As.mk (HM.out m)
      have HLS := As.mk (show listL set (k + 1) = listL set k ++ (if decide (hasP set m) = true then [m] else []) by
        unfold listL
        rcases hm with ⟨rfl, rfl⟩ | ⟨rfl, rfl⟩ | ⟨rfl, rfl⟩
        all_goals
          rw [List.take_add_one, List.filter_append]
          congr 1
          simp [List.filter_cons])
      clear ho hp HS
      cases hb : decide (hasP set m)
      · rw [hb] at HMM HLS
        have HLS2 := As.mk (show listL set (k + 1) = listL set k by rw [HLS.out]; simp)
        clear hb HLS
        rcases hm with ⟨rfl, rfl⟩ | ⟨rfl, rfl⟩ | ⟨rfl, rfl⟩
        · go_wp2_with (go_at_call 47; refine (HMM.out _).mono ?_; rintro e w' ⟨rfl, rfl⟩)
          go_roundg g1
          case measure => omega
          case rel => exact ⟨1, by omega, by first | rfl | go_num, ⟨by rw [HLS2.out]; exact HO.out, HP.out⟩⟩
        · go_wp2_with (go_at_call 47; refine (HMM.out _).mono ?_; rintro e w' ⟨rfl, rfl⟩)
          go_roundg g1
          case measure => omega
          case rel => exact ⟨2, by omega, by first | rfl | go_num, ⟨by rw [HLS2.out]; exact HO.out, HP.out⟩⟩
        · go_wp2_with (go_at_call 47; refine (HMM.out _).mono ?_; rintro e w' ⟨rfl, rfl⟩)
          go_roundg g1
          case measure => omega
          case rel => exact ⟨3, by omega, by first | rfl | go_num, ⟨by rw [HLS2.out]; exact HO.out, HP.out⟩⟩
      · rw [hb] at HMM HLS
        have HLS2 := As.mk (show listL set (k + 1) = listL set k ++ [m] by rw [HLS.out]; simp)
        clear hb HLS
        rcases hm with ⟨rfl, rfl⟩ | ⟨rfl, rfl⟩ | ⟨rfl, rfl⟩
        · go_wp2_with (first | (go_at_call 47; refine (HMM.out _).mono ?_; rintro e w' ⟨rfl, rfl⟩) | (at_builtin; refine Rp.own_append intRS HO.out (1 : Int) [.int .i64 1] rfl (Fp := fun _ => False) (G := fun q => w.heap.size ≤ q) (fun _ h => h.elim) (fun _ h _ => h) (fun q hq => by have := HP.out.size; omega) rfl _ _ 65 _ 8 rfl Tryz.underlying65 int_infoS rfl (by decide) (by decide) rfl (by simp [Act.eval]) (by omega) ?_; intro v1 w1 ho1 hu1; have HO1 := As.mk ho1; have HU1 := As.mk (Upd.trans HP.out hu1 (fun q hq h => by have := Rp.own_block_lt HO.out q h; omega)); clear ho1 hu1))
          go_roundg g1
          case measure => omega
          case rel => exact ⟨1, by omega, by first | rfl | go_num, ⟨by rw [HLS2.out]; exact HO1.out, HU1.out⟩⟩
        · go_wp2_with (first | (go_at_call 47; refine (HMM.out _).mono ?_; rintro e w' ⟨rfl, rfl⟩) | (at_builtin; refine Rp.own_append intRS HO.out (2 : Int) [.int .i64 2] rfl (Fp := fun _ => False) (G := fun q => w.heap.size ≤ q) (fun _ h => h.elim) (fun _ h _ => h) (fun q hq => by have := HP.out.size; omega) rfl _ _ 65 _ 8 rfl Tryz.underlying65 int_infoS rfl (by decide) (by decide) rfl (by simp [Act.eval]) (by omega) ?_; intro v1 w1 ho1 hu1; have HO1 := As.mk ho1; have HU1 := As.mk (Upd.trans HP.out hu1 (fun q hq h => by have := Rp.own_block_lt HO.out q h; omega)); clear ho1 hu1))
          go_roundg g1
          case measure => omega
          case rel => exact ⟨2, by omega, by first | rfl | go_num, ⟨by rw [HLS2.out]; exact HO1.out, HU1.out⟩⟩
        · go_wp2_with (first | (go_at_call 47; refine (HMM.out _).mono ?_; rintro e w' ⟨rfl, rfl⟩) | (at_builtin; refine Rp.own_append intRS HO.out (4 : Int) [.int .i64 4] rfl (Fp := fun _ => False) (G := fun q => w.heap.size ≤ q) (fun _ h => h.elim) (fun _ h _ => h) (fun q hq => by have := HP.out.size; omega) rfl _ _ 65 _ 8 rfl Tryz.underlying65 int_infoS rfl (by decide) (by decide) rfl (by simp [Act.eval]) (by omega) ?_; intro v1 w1 ho1 hu1; have HO1 := As.mk ho1; have HU1 := As.mk (Upd.trans HP.out hu1 (fun q hq h => by have := Rp.own_block_lt HO.out q h; omega)); clear ho1 hu1))
          go_roundg g1
          case measure => omega
          case rel => exact ⟨3, by omega, by first | rfl | go_num, ⟨by rw [HLS2.out]; exact HO1.out, HU1.out⟩⟩
end Go.Proofs.YteeindicpbcjaaaGreatDoor
