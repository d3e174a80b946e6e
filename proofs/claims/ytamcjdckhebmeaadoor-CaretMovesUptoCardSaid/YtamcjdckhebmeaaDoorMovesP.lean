/- So many text places on (plain). -/
import Derived.Test.YtamcjdckhebmeaaDoorCaretP
namespace Go.Proofs.YtamcjdckhebmeaaDoor
open Go.RowKit
set_option linter.unusedVariables false
set_option linter.unusedSimpArgs false

def lastTake (l : List Tok) (s : Int) (k : Nat) (p : Int) : Int := ((places l s (p + s)).take k).getLast?.getD p
def sideOf (n : Int) : Int := if n < 0 then -1 else 1
theorem sideOf_or (n : Int) : sideOf n = 1 ∨ sideOf n = -1 := by unfold sideOf; split <;> simp
def moveV (l : List Tok) (p n : Int) : Int := if n = 0 then p else lastTake l (sideOf n) n.natAbs p
theorem plc_tail (l : List Tok) (s : Int) : ∀ (f : Nat) (p q : Int) (r : List Int), Enough l s f p → plc l s f p = q :: r → ∃ g, Enough l s g (q + s) ∧ r = plc l s g (q + s) := by
  intro f
  induction f with
  | zero => intro p q r _ h; cases h
  | succ f ih =>
    intro p q r he h
    rw [plc] at h
    split at h
    · split at h
      · injection h with h1 h2
        subst h1
        exact ⟨f, he.next, h2.symm⟩
      · exact ih _ _ _ he.next h
    · cases h
theorem places_tail {l : List Tok} {s p q : Int} {r : List Int} (hs : s = 1 ∨ s = -1) (h : places l s p = q :: r) : r = places l s (q + s) := by
  obtain ⟨g, h1, h2⟩ := plc_tail l s _ _ _ _ (enough_places l hs p) h
  rw [h2]
  exact plc_more l s _ _ _ h1 (enough_places l hs (q + s))
def stepV (l : List Tok) (s p : Int) : Int := lastTake l s 1 p
theorem getLast_cons (q : Int) (r : List Int) (d : Int) : (q :: r).getLast?.getD d = r.getLast?.getD q := by
  cases r with
  | nil => rfl
  | cons x t => rw [List.getLast?_cons_cons]; simp [List.getLast?_cons]
theorem lastTake_succ (l : List Tok) {s : Int} (hs : s = 1 ∨ s = -1) (k : Nat) (p : Int) : lastTake l s (k + 1) p = lastTake l s k (stepV l s p) := by
  unfold stepV lastTake
  cases hpl : places l s (p + s) with
  | nil => simp [hpl]
  | cons q r =>
    have hr := places_tail hs hpl
    simp only [List.take_succ_cons, List.take_zero]
    rw [getLast_cons, hr]
    rfl
theorem lastTake_zero (l : List Tok) (s p : Int) : lastTake l s 0 p = p := rfl
/-- One place on and back. -/
theorem there_back {l : List Tok} {p : Int} (hm : mayF l p = true) (hne : stepV l 1 p ≠ p) : stepV l (-1) (stepV l 1 p) = p := by
  have hp := mayF_in hm
  have hst : ∀ (s q : Int), stepV l s q = (places l s (q + s)).head?.getD q := by
    intro s q
    unfold stepV lastTake
    cases places l s (q + s) with
    | nil => rfl
    | cons x r => rfl
  rw [hst 1 p] at hne ⊢
  rcases first_spec l (s := 1) (.inl rfl) _ (p + 1) (enough_places l (.inl rfl) (p + 1)) with ⟨_, k, h1, _, h3, h4⟩ | ⟨h1, _⟩
  · have hh : (places l 1 (p + 1)).head? = some (p + 1 + 1 * (k : Int)) := h1
    rw [hh]
    simp only [Option.getD_some]
    rw [hst]
    have hto := mayF_in h3
    rcases first_spec l (s := -1) (.inr rfl) _ (p + 1 + 1 * (k : Int) + -1) (enough_places l (.inr rfl) (p + 1 + 1 * (k : Int) + -1)) with ⟨_, j, g1, _, g3, g4⟩ | ⟨g1, g2⟩
    · have hg : (places l (-1) (p + 1 + 1 * (k : Int) + -1)).head? = some (p + 1 + 1 * (k : Int) + -1 + -1 * (j : Int)) := g1
      rw [hg]
      simp only [Option.getD_some]
      rcases Nat.lt_trichotomy j k with hj | hj | hj
      · have := h4 (k - 1 - j) (by omega)
        rw [show p + 1 + 1 * (((k - 1 - j : Nat)) : Int) = p + 1 + 1 * (k : Int) + -1 + -1 * (j : Int) by omega, g3] at this
        cases this
      · omega
      · have := g4 k hj
        rw [show p + 1 + 1 * (k : Int) + -1 + -1 * (k : Int) = p by omega, hm] at this
        cases this
    · have := g2 (by omega) k
      rw [show p + 1 + 1 * (k : Int) + -1 + -1 * (k : Int) = p by omega, hm] at this
      cases this
  · have hh : places l 1 (p + 1) = [] := h1
    rw [hh] at hne
    exact absurd rfl hne
theorem plc_may' (l : List Tok) (s : Int) : ∀ (f : Nat) (p x : Int), x ∈ plc l s f p → mayF l x = true := by
  intro f
  induction f with
  | zero => intro p x h; cases h
  | succ f ih =>
    intro p x h
    rw [plc] at h
    split at h
    · split at h
      · rename_i hm
        rcases List.mem_cons.1 h with rfl | h
        · exact hm
        · exact ih _ _ h
      · exact ih _ _ h
    · cases h
theorem lastTake_in {l : List Tok} {s : Int} {k : Nat} {p : Int} (hp : 0 ≤ p ∧ p ≤ (l.length : Int)) : 0 ≤ lastTake l s k p ∧ lastTake l s k p ≤ (l.length : Int) := by
  unfold lastTake
  cases hg : ((places l s (p + s)).take k).getLast? with
  | none => exact hp
  | some x =>
    have hx : x ∈ places l s (p + s) := List.mem_of_mem_take (List.mem_of_getLast? hg)
    exact mayF_in (plc_may' l s _ _ x hx)
theorem moveV_in {l : List Tok} {p n : Int} (hp : 0 ≤ p ∧ p ≤ (l.length : Int)) : 0 ≤ moveV l p n ∧ moveV l p n ≤ (l.length : Int) := by
  unfold moveV
  split
  · exact hp
  · exact lastTake_in hp
end Go.Proofs.YtamcjdckhebmeaaDoor
