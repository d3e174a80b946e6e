/- Commands, plain: marks put on, or taken off. -/
import Derived.Test.YteeindicpbcjaaaGreatDoorEditP
namespace Go.Proofs.YteeindicpbcjaaaGreatDoor
open Go.RowKit
set_option linter.unusedVariables false
set_option linter.unusedSimpArgs false

/-- Is a mark in a set? -/
def bitP (set m : Int) : Prop := (m = 1 ∧ (set = 1 ∨ set = 3)) ∨ (m = 2 ∧ (set = 2 ∨ set = 3)) ∨ (m = 4 ∧ set = 4)
instance (set m : Int) : Decidable (bitP set m) := by unfold bitP; infer_instance
def markS (k a b m : Int) : StepD := ⟨k, a, b, 0, 0, 0, [], m⟩
theorem markS_ok {k a b m : Int} (hk : k = 2 ∨ k = 3) : (markS k a b m).ok ↔ 0 ≤ a ∧ a < b ∧ b ≤ 2048 ∧ markOne m := by
  unfold StepD.ok StepD.kindOk markS
  constructor
  · rintro ⟨h1, h2, h3, h4, h5⟩
    simp only at h1 h2 h3 h4
    rcases h4 with h4 | h4 | h4
    · omega
    · omega
    · exact ⟨h1, h4.2.1, h3, h4.2.2.1⟩
  · rintro ⟨h1, h2, h3, h4⟩
    exact ⟨h1, by simp only; omega, h3, .inr (.inr ⟨hk, h2, h4, rfl, rfl, rfl, rfl⟩), fun x hx => by cases hx⟩
theorem turn_take {set m : Int} (hm : markOne m) (hs : 0 ≤ set ∧ set ≤ 4) : ¬ bitP (turnM 3 m set) m := by
  unfold turnM bitP
  rw [if_pos rfl]
  rcases hm with rfl | rfl | rfl <;> split <;> omega
theorem turn_add {set m : Int} (hm : markOne m) (hs : 0 ≤ set ∧ set ≤ 4) : bitP (turnM 2 m set) m ∨ turnM 2 m set = 4 := by
  unfold turnM bitP
  rw [if_neg (by decide)]
  rcases hm with rfl | rfl | rfl <;> split <;> first | omega | (split <;> omega)
theorem turn_in {k set m : Int} (hm : markOne m) (hs : 0 ≤ set ∧ set ≤ 4) : 0 ≤ turnM k m set ∧ turnM k m set ≤ 4 := by
  unfold turnM
  rcases hm with rfl | rfl | rfl <;> split <;> split <;> first | omega | (split <;> omega)
theorem right_mark {x : Tok} (h : rightB x = true) (h0 : x.k = 0) : 0 ≤ x.m ∧ x.m ≤ 4 := by
  have h := of_decide_eq_true h
  simp only [RightP, MarkP] at h
  omega
theorem right_turn {x : Tok} {k m : Int} (hm : markOne m) (h : rightB x = true) : rightB (turnT k m x) = true := by
  unfold turnT
  split
  · rename_i h0
    have h1 := right_mark h h0
    have h2 := turn_in (k := k) hm h1
    have h3 : RightP x := of_decide_eq_true h
    unfold rightB
    rw [decide_eq_true_eq]
    rcases h3 with h3 | h3 | h3
    · exact .inl ⟨h3.1, h3.2.1, h3.2.2.1, h2⟩
    · exact absurd h3.1 (by omega)
    · exact absurd h3.1 (by omega)
  · exact h
theorem textB_turn {k m : Int} (hm : markOne m) : ∀ l : List Tok, (∀ x ∈ l, rightB x = true) → textB (l.map (turnT k m)) = textB l := by
  intro l
  induction l with
  | nil => intro _; rfl
  | cons x r ih =>
    intro h
    have hx := h x List.mem_cons_self
    have hr := ih (fun y hy => h y (List.mem_cons_of_mem _ hy))
    rw [List.map_cons, show turnT k m x :: r.map (turnT k m) = [turnT k m x] ++ r.map (turnT k m) from rfl, show x :: r = [x] ++ r from rfl, textB_app, textB_app, hr]
    congr 1
    unfold textB
    have e1 : (turnT k m x).k = x.k := by unfold turnT; split <;> rfl
    have e2 : (turnT k m x).n = x.n := by unfold turnT; split <;> rfl
    simp [List.filter_cons, right_turn hm hx, hx, e1]
    by_cases h0 : x.k = 0
    · simp [h0, e2]
    · simp [h0]
/-- What EditToggles says, plain. -/
theorem toggles_plain {l : List Tok} {k a b m : Int} (hk : k = 2 ∨ k = 3) (hm : markOne m) (hr : ∀ x ∈ l, rightB x = true) (hab : 0 ≤ a ∧ a ≤ b ∧ b ≤ l.length) :
    (stepDo l (markS k a b m)).length = l.length ∧ textB (stepDo l (markS k a b m)) = textB l ∧
    ∀ i : Nat, a ≤ i → (i : Int) < b → ∃ y, l[i]? = some y ∧ (stepDo l (markS k a b m))[i]? = some (turnT k m y) := by
  have hdo : stepDo l (markS k a b m) = l.take a.toNat ++ ((l.take b.toNat).drop a.toNat).map (turnT k m) ++ l.drop b.toNat := by
    unfold stepDo markS
    simp only
    rw [if_neg (by omega), if_neg (by omega)]
  have h1 : (l.take a.toNat).length = a.toNat := by rw [List.length_take]; omega
  have h2 : ((l.take b.toNat).drop a.toNat).length = b.toNat - a.toNat := by rw [List.length_drop, List.length_take]; omega
  have hparts : l = l.take a.toNat ++ (l.take b.toNat).drop a.toNat ++ l.drop b.toNat := by
    have e : l.take a.toNat ++ (l.take b.toNat).drop a.toNat = l.take b.toNat := by
      conv => rhs; rw [← List.take_append_drop a.toNat (l.take b.toNat)]
      rw [List.take_take]
      congr 2
      omega
    rw [e, List.take_append_drop]
  refine ⟨?_, ?_, fun i hi1 hi2 => ?_⟩
  · rw [hdo]
    simp only [List.length_append, List.length_map, h1, h2, List.length_drop]
    omega
  · rw [hdo, textB_app, textB_app, textB_turn hm]
    · conv => rhs; rw [hparts]
      rw [textB_app, textB_app]
    · intro x hx
      exact hr x (List.mem_of_mem_take (List.mem_of_mem_drop hx))
  · have hlt : i < l.length := by omega
    refine ⟨l[i], List.getElem?_eq_getElem hlt, ?_⟩
    rw [hdo, List.append_assoc, List.getElem?_append_right (by omega), h1, List.getElem?_append_left (by rw [List.length_map, h2]; omega), List.getElem?_map, List.getElem?_drop, List.getElem?_take, if_pos (by omega), show a.toNat + (i - a.toNat) = i by omega, List.getElem?_eq_getElem hlt]
    rfl
end Go.Proofs.YteeindicpbcjaaaGreatDoor
