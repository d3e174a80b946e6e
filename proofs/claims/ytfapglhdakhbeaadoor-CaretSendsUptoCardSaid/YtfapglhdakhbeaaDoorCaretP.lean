/- The text places of a side, in order (plain). -/
import Derived.Test.YtfapglhdakhbeaaDoorMayW
namespace Go.Proofs.YtfapglhdakhbeaaDoor
open Go.RowKit
set_option linter.unusedVariables false
set_option linter.unusedSimpArgs false

/-- May text stand at a place? -/
def mayF (l : List Tok) (p : Int) : Bool := decide (0 ≤ p ∧ p ≤ (l.length : Int)) && decide ((houseCheck (l.take p.toNat ++ letter :: l.drop p.toNat)).2 = 0)
theorem may_text {w : World} {cb : Nat} {F : Nat → Prop} {A : Option Addr} {c : Nat} {l : List Tok} (h : SchR w cb houseRules houseGroups) (hr : tokR.row w F A l) (hb : l.length ≤ 200) (hlc : l.length ≤ c) (ok : (houseCheck l).2 = 0) (p : Int) :
    Calls Tryd.prog 36 #[.pointer (some ⟨cb, 0, none⟩), .slice A l.length c, .int .i64 p, .int .i64 0] w fun r w' => r = .returned (.bool (mayF l p)) ∧ Pure w w' := by
  by_cases hp : 0 ≤ p ∧ p ≤ (l.length : Int)
  · obtain ⟨n, rfl⟩ : ∃ n : Nat, p = n := ⟨p.toNat, by omega⟩
    obtain ⟨R, hP⟩ := at_place ok hb (n := n) (by omega)
    have h1 := May_ok (t := 0) h hr (by omega) hlc ok (by omega) hP
    rw [may_iff hP] at h1
    have h2 : mayF l n = decide ((houseCheck (l.take n ++ letter :: l.drop n)).2 = 0) := by
      unfold mayF
      rw [decide_eq_true hp, Int.toNat_natCast]
      exact Bool.true_and _
    rw [h2]
    exact h1
  · have h2 : mayF l p = false := by
      unfold mayF
      rw [decide_eq_false hp]
      exact Bool.false_and _
    rw [h2]
    exact May_no h hr (by omega) (by omega)
/-- The text places from p on, by steps of s. -/
def plc (l : List Tok) (s : Int) : Nat → Int → List Int
  | 0, _ => []
  | f + 1, p => if 0 ≤ p ∧ p ≤ (l.length : Int) then (if mayF l p = true then p :: plc l s f (p + s) else plc l s f (p + s)) else []
/-- So many steps are enough. -/
def Enough (l : List Tok) (s : Int) (f : Nat) (p : Int) : Prop := (s = 1 ∧ (l.length : Int) - p + 1 ≤ f) ∨ (s = -1 ∧ p + 1 ≤ f)
theorem Enough.next {l : List Tok} {s p : Int} {f : Nat} (h : Enough l s (f + 1) p) : Enough l s f (p + s) := by
  rcases h with ⟨rfl, h⟩ | ⟨rfl, h⟩
  · exact .inl ⟨rfl, by omega⟩
  · exact .inr ⟨rfl, by omega⟩
theorem Enough.pos {l : List Tok} {s p : Int} {f : Nat} (h : Enough l s f p) (hp : 0 ≤ p ∧ p ≤ (l.length : Int)) : ∃ g, f = g + 1 := by
  rcases h with ⟨_, h⟩ | ⟨_, h⟩ <;> exact ⟨f - 1, by omega⟩
theorem plc_more (l : List Tok) (s : Int) : ∀ (f g : Nat) (p : Int), Enough l s f p → Enough l s g p → plc l s f p = plc l s g p := by
  intro f
  induction f with
  | zero =>
    intro g p h1 h2
    have hp : ¬ (0 ≤ p ∧ p ≤ (l.length : Int)) := fun h => by obtain ⟨k, hk⟩ := h1.pos h; omega
    cases g with
    | zero => rfl
    | succ g => rw [plc, plc, if_neg hp]
  | succ f ih =>
    intro g p h1 h2
    by_cases hp : 0 ≤ p ∧ p ≤ (l.length : Int)
    · obtain ⟨g, rfl⟩ := h2.pos hp
      rw [plc, plc, if_pos hp, if_pos hp, ih g (p + s) h1.next h2.next]
    · cases g with
      | zero => rw [plc, plc, if_neg hp]
      | succ g => rw [plc, plc, if_neg hp, if_neg hp]
def places (l : List Tok) (s p : Int) : List Int := plc l s (l.length + 2 + p.natAbs) p
theorem enough_places (l : List Tok) {s : Int} (hs : s = 1 ∨ s = -1) (p : Int) : Enough l s (l.length + 2 + p.natAbs) p := by
  rcases hs with rfl | rfl
  · exact .inl ⟨rfl, by omega⟩
  · exact .inr ⟨rfl, by omega⟩
/-- The first text place of a side. -/
theorem first_spec (l : List Tok) {s : Int} (hs : s = 1 ∨ s = -1) : ∀ (f : Nat) (p : Int), Enough l s f p → 
    (∃ q k : Nat, (plc l s f p).head? = some (p + s * k) ∧ q = k ∧ mayF l (p + s * k) = true ∧ ∀ j : Nat, j < k → mayF l (p + s * j) = false) ∨ ((plc l s f p) = [] ∧ (0 ≤ p ∧ p ≤ (l.length : Int) → ∀ j : Nat, mayF l (p + s * j) = false)) := by
  intro f
  induction f with
  | zero =>
    intro p h
    refine .inr ⟨rfl, fun hp => ?_⟩
    obtain ⟨g, hg⟩ := h.pos hp
    omega
  | succ f ih =>
    intro p h
    rw [plc]
    by_cases hp : 0 ≤ p ∧ p ≤ (l.length : Int)
    · rw [if_pos hp]
      cases hm : mayF l p
      · simp only [Bool.false_eq_true, if_false]
        have hnext : ∀ j : Nat, p + s * ((j + 1 : Nat) : Int) = p + s + s * j := fun j => by rw [Int.natCast_add, Int.mul_add]; simp; omega
        rcases ih (p + s) h.next with ⟨q, k, h1, h2, h3, h4⟩ | ⟨h1, h2⟩
        · refine .inl ⟨q + 1, k + 1, by rw [h1, hnext], by omega, by rw [hnext]; exact h3, fun j hj => ?_⟩
          cases j with
          | zero => simpa using hm
          | succ j => rw [hnext]; exact h4 j (by omega)
        · refine .inr ⟨h1, fun _ j => ?_⟩
          cases j with
          | zero => simpa using hm
          | succ j =>
            rw [hnext]
            by_cases hp2 : 0 ≤ p + s ∧ p + s ≤ (l.length : Int)
            · exact h2 hp2 j
            · unfold mayF
              rw [decide_eq_false (by rcases hs with rfl | rfl <;> omega)]
              exact Bool.false_and _
      · simp only [if_true]
        exact .inl ⟨0, 0, by simp, rfl, by simpa using hm, fun j hj => by omega⟩
    · rw [if_neg hp]
      exact .inr ⟨rfl, fun h => absurd h hp⟩
end Go.Proofs.YtfapglhdakhbeaaDoor
namespace Go.Proofs.YtfapglhdakhbeaaDoor
/-- The first text place of a side, and how far it is. -/
def firstV (l : List Tok) (s p : Int) : Int × Int := match places l s p with
  | q :: _ => (q, (q - p) * s)
  | [] => (0, (l.length : Int) + 1)
theorem firstV_spec (l : List Tok) {s p : Int} (hs : s = 1 ∨ s = -1) (hp : 0 ≤ p ∧ p ≤ (l.length : Int)) :
    (∃ k : Nat, firstV l s p = (p + s * k, (k : Int)) ∧ mayF l (p + s * k) = true ∧ ∀ j : Nat, j < k → mayF l (p + s * j) = false) ∨ (firstV l s p = (0, (l.length : Int) + 1) ∧ ∀ j : Nat, mayF l (p + s * j) = false) := by
  rcases first_spec l hs _ p (enough_places l hs p) with ⟨q, k, h1, _, h3, h4⟩ | ⟨h1, h2⟩
  · refine .inl ⟨k, ?_, h3, h4⟩
    unfold firstV places
    cases hpl : plc l s (l.length + 2 + p.natAbs) p with
    | nil => rw [hpl] at h1; cases h1
    | cons x r =>
      rw [hpl] at h1
      simp only [List.head?_cons, Option.some.injEq] at h1
      subst h1
      rcases hs with rfl | rfl <;> simp <;> omega
  · refine .inr ⟨?_, h2 hp⟩
    unfold firstV places
    rw [h1]
def nearV (l : List Tok) (p side : Int) : Int × Int :=
  if min (firstV l (-1) p).2 (firstV l 1 p).2 > (l.length : Int) then (0, 6)
  else if (firstV l (-1) p).2 < (firstV l 1 p).2 ∨ ((firstV l (-1) p).2 = (firstV l 1 p).2 ∧ side < 0) then ((firstV l (-1) p).1, 0) else ((firstV l 1 p).1, 0)
theorem mayF_in {l : List Tok} {p : Int} (h : mayF l p = true) : 0 ≤ p ∧ p ≤ (l.length : Int) := by
  unfold mayF at h
  rw [Bool.and_eq_true, decide_eq_true_eq] at h
  exact h.1
/-- None is nearer. -/
theorem near_spec (l : List Tok) {p side : Int} (hp : 0 ≤ p ∧ p ≤ (l.length : Int)) :
    nearV l p side = (0, 6) ∨ ((nearV l p side).2 = 0 ∧ mayF l (nearV l p side).1 = true ∧ ∀ q : Int, p - max ((nearV l p side).1 - p) (p - (nearV l p side).1) < q → q < p + max ((nearV l p side).1 - p) (p - (nearV l p side).1) → mayF l q = false) := by
  have hL := firstV_spec l (s := -1) (.inr rfl) hp
  have hR := firstV_spec l (s := 1) (.inl rfl) hp
  unfold nearV
  generalize firstV l (-1) p = x at *
  generalize firstV l 1 p = y at *
  have side_l : ∀ (k : Nat) (q : Int), (∀ j : Nat, j < k → mayF l (p + -1 * j) = false) → q ≤ p → p - k < q → mayF l q = false := fun k q h h1 h2 => by
    have := h (p - q).toNat (by omega)
    rwa [show p + -1 * (((p - q).toNat : Nat) : Int) = q by omega] at this
  have side_r : ∀ (k : Nat) (q : Int), (∀ j : Nat, j < k → mayF l (p + 1 * j) = false) → p ≤ q → q < p + k → mayF l q = false := fun k q h h1 h2 => by
    have := h (q - p).toNat (by omega)
    rwa [show p + 1 * (((q - p).toNat : Nat) : Int) = q by omega] at this
  rcases hL with ⟨a, rfl, ha, ha2⟩ | ⟨rfl, ha2⟩ <;> rcases hR with ⟨b, rfl, hb, hb2⟩ | ⟨rfl, hb2⟩
  · have h1 := mayF_in ha
    have h2 := mayF_in hb
    simp only
    rw [if_neg (by omega)]
    split
    · refine .inr ⟨rfl, ha, fun q q1 q2 => ?_⟩
      simp only at q1 q2
      by_cases hq : q ≤ p
      · exact side_l a q ha2 hq (by omega)
      · exact side_r b q hb2 (by omega) (by omega)
    · refine .inr ⟨rfl, hb, fun q q1 q2 => ?_⟩
      simp only at q1 q2
      by_cases hq : q ≤ p
      · exact side_l a q ha2 hq (by omega)
      · exact side_r b q hb2 (by omega) (by omega)
  · have h1 := mayF_in ha
    simp only
    rw [if_neg (by omega), if_pos (by omega)]
    refine .inr ⟨rfl, ha, fun q q1 q2 => ?_⟩
    simp only at q1 q2
    by_cases hq : q ≤ p
    · exact side_l a q ha2 hq (by omega)
    · have := hb2 (q - p).toNat
      rwa [show p + 1 * (((q - p).toNat : Nat) : Int) = q by omega] at this
  · have h1 := mayF_in hb
    simp only
    rw [if_neg (by omega), if_neg (by omega)]
    refine .inr ⟨rfl, hb, fun q q1 q2 => ?_⟩
    simp only at q1 q2
    by_cases hq : q ≤ p
    · have := ha2 (p - q).toNat
      rwa [show p + -1 * (((p - q).toNat : Nat) : Int) = q by omega] at this
    · exact side_r b q hb2 (by omega) (by omega)
  · simp only
    rw [if_pos (by omega)]
    exact .inl rfl
end Go.Proofs.YtfapglhdakhbeaaDoor
