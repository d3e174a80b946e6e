/- Maps of places as the reference goes through them (plain). -/
import Derived.Test.YtfapglhdakhbeaaDoorPosN
namespace Go.Proofs.YtfapglhdakhbeaaDoor
open Go.RowKit
set_option linter.unusedVariables false
set_option linter.unusedSimpArgs false

theorem sorted_at : ∀ (m : List Rng) (last : Int), rightM last m = true → ∀ (i j : Nat) (hi : i < m.length) (hj : j < m.length), i < j → m[i].at0 + m[i].old ≤ m[j].at0 := by
  intro m
  induction m with
  | nil => intro last _ i j hi; cases hi
  | cons r t ih =>
    intro last h i j hi hj hij
    rw [rightM] at h
    split at h
    · cases j with
      | zero => omega
      | succ j =>
        cases i with
        | zero =>
          have hm := rightM_at t _ h (t[j]'(by simpa using hj)) (List.getElem_mem _)
          simp only [List.getElem_cons_zero, List.getElem_cons_succ]
          exact hm.2.2.2.2.2
        | succ i =>
          simp only [List.getElem_cons_succ]
          exact ih _ h i j (by simpa using hi) (by simpa using hj) (by omega)
    · cases h
/-- No range of the first holds the place. -/
def Skips (m : List Rng) (p : Int) (i : Nat) : Prop := ∀ (j : Nat) (hj : j < m.length), j < i → p < (m[j]).at0 ∨ (m[j]).at0 + (m[j]).old < p
theorem refmap_at {m : List Rng} {p side : Int} (hm : rightM 0 m = true) {i : Nat} (hi : i < m.length) (hs : Skips m p i) (h1 : (m[i]).at0 ≤ p) (h2 : p ≤ (m[i]).at0 + (m[i]).old) :
    mapGo p side 0 m = inAt m[i] ((m[i]).at0 + dsum m i) p side := by
  have ho := rightM_at m 0 hm
  have hp : ∀ j (hj : j < m.length), j < i → m[j].at0 + m[j].old < p := by
    intro j hj hji
    rcases hs j hj hji with h | h
    · have h3 := sorted_at m 0 hm j i hj hi hji
      have h4 := (ho m[j] (List.getElem_mem hj)).2.2.2.1
      omega
    · exact h
  rw [mapGo_passed (fun x hx => (ho x hx).2.2.2.1) i (by omega) hp, List.drop_eq_getElem_cons hi, mapGo, if_neg (by omega), if_pos h2]
theorem refmap_none {m : List Rng} {p side : Int} (hm : rightM 0 m = true) {n : Nat} (hn : n ≤ m.length) (hs : Skips m p m.length) (hl : ∀ (j : Nat) (hj : j < m.length), j < n → (m[j]).at0 < p) (he : ∀ (hj : n < m.length), ¬ (m[n]).at0 < p) :
    mapGo p side 0 m = p + dsum m n := by
  have ho := rightM_at m 0 hm
  have hp : ∀ j (hj : j < m.length), j < n → m[j].at0 + m[j].old < p := by
    intro j hj hjn
    rcases hs j hj hj with h | h
    · have := hl j hj hjn
      omega
    · exact h
  rw [mapGo_passed (fun x hx => (ho x hx).2.2.2.1) n hn hp]
  rcases Nat.lt_or_ge n m.length with h | h
  · have h1 := he h
    have h2 := hs n h h
    have h3 := (ho m[n] (List.getElem_mem h)).2.2.2.1
    rw [List.drop_eq_getElem_cons h, mapGo, if_pos (by omega)]
  · have : n = m.length := by omega
    subst this
    rw [List.drop_length, mapGo]
end Go.Proofs.YtfapglhdakhbeaaDoor
