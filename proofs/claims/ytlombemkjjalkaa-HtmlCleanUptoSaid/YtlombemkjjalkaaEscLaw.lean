/- Plain laws of what Escape writes. -/
import Derived.Test.YtlombemkjjalkaaEsc
namespace Go.Proofs.Ytlombemkjjalkaa
set_option linter.unusedVariables false
set_option linter.unusedSimpArgs false

def special (c : UInt8) : Bool := c == 60 || c == 62 || c == 34 || c == 38
def plainB (l : List UInt8) : Bool := l.all (fun c => !special c)

theorem escB_plain {c : UInt8} (h : special c = false) : escB c = [c] := by
  simp [special] at h
  obtain ⟨⟨⟨h1, h2⟩, h3⟩, h4⟩ := h
  exact escB_other h4 h1 h2 h3
theorem escB_special {c : UInt8} (h : special c = true) : 2 ≤ (escB c).length := by
  simp [special] at h
  rcases h with ((rfl | rfl) | rfl) | rfl <;> decide
theorem escB_pos (c : UInt8) : 1 ≤ (escB c).length := by
  cases h : special c
  · rw [escB_plain h]; simp
  · have := escB_special h; omega
theorem esc_ge (l : List UInt8) : l.length ≤ (esc l).length := by
  induction l with
  | nil => simp [esc]
  | cons c l ih => have := escB_pos c; simp only [esc, List.flatMap_cons, List.length_append, List.length_cons] at *; omega
theorem esc_plain (l : List UInt8) : plainB l = decide (esc l = l) := by
  induction l with
  | nil => simp [esc, plainB]
  | cons c l ih =>
    have hc : esc (c :: l) = escB c ++ esc l := by simp [esc]
    have hp : plainB (c :: l) = (!special c && plainB l) := by simp [plainB]
    rw [hc, hp]
    cases h : special c
    · rw [escB_plain h, ih]
      simp
    · have h2 := escB_special h
      have h3 := esc_ge l
      have : ¬ (escB c ++ esc l = c :: l) := by
        intro e
        have := congrArg List.length e
        simp at this
        omega
      simp [this]

def Four (l : List UInt8) : Prop := ∃ r, l = [38, 108, 116, 59] ++ r ∨ l = [38, 103, 116, 59] ++ r ∨ l = [38, 97, 109, 112, 59] ++ r ∨ l = [38, 113, 117, 111, 116, 59] ++ r

theorem esc_at (l : List UInt8) : ∀ i c, (esc l)[i]? = some c → c ≠ 60 ∧ c ≠ 62 ∧ c ≠ 34 ∧ (c = 38 → Four ((esc l).drop i)) := by
  induction l with
  | nil => intro i c h; simp [esc] at h
  | cons a l ih =>
    intro i c h
    have hc : esc (a :: l) = escB a ++ esc l := by simp [esc]
    rw [hc] at h ⊢
    rcases Nat.lt_or_ge i (escB a).length with hi | hi
    · rw [List.getElem?_append_left hi] at h
      have hd : (escB a ++ esc l).drop i = (escB a).drop i ++ esc l := List.drop_append_of_le_length (Nat.le_of_lt hi)
      rw [hd]
      by_cases h38 : a = 38
      · rw [escB_38 h38] at h hi ⊢
        match i, hi, h with
        | 0, _, h => simp at h; subst h; exact ⟨by decide, by decide, by decide, fun _ => ⟨esc l, .inr (.inr (.inl rfl))⟩⟩
        | 1, _, h => simp at h; subst h; exact ⟨by decide, by decide, by decide, fun h => by cases h⟩
        | 2, _, h => simp at h; subst h; exact ⟨by decide, by decide, by decide, fun h => by cases h⟩
        | 3, _, h => simp at h; subst h; exact ⟨by decide, by decide, by decide, fun h => by cases h⟩
        | 4, _, h => simp at h; subst h; exact ⟨by decide, by decide, by decide, fun h => by cases h⟩
      by_cases h60 : a = 60
      · rw [escB_60 h60] at h hi ⊢
        match i, hi, h with
        | 0, _, h => simp at h; subst h; exact ⟨by decide, by decide, by decide, fun _ => ⟨esc l, .inl rfl⟩⟩
        | 1, _, h => simp at h; subst h; exact ⟨by decide, by decide, by decide, fun h => by cases h⟩
        | 2, _, h => simp at h; subst h; exact ⟨by decide, by decide, by decide, fun h => by cases h⟩
        | 3, _, h => simp at h; subst h; exact ⟨by decide, by decide, by decide, fun h => by cases h⟩
      by_cases h62 : a = 62
      · rw [escB_62 h62] at h hi ⊢
        match i, hi, h with
        | 0, _, h => simp at h; subst h; exact ⟨by decide, by decide, by decide, fun _ => ⟨esc l, .inr (.inl rfl)⟩⟩
        | 1, _, h => simp at h; subst h; exact ⟨by decide, by decide, by decide, fun h => by cases h⟩
        | 2, _, h => simp at h; subst h; exact ⟨by decide, by decide, by decide, fun h => by cases h⟩
        | 3, _, h => simp at h; subst h; exact ⟨by decide, by decide, by decide, fun h => by cases h⟩
      by_cases h34 : a = 34
      · rw [escB_34 h34] at h hi ⊢
        match i, hi, h with
        | 0, _, h => simp at h; subst h; exact ⟨by decide, by decide, by decide, fun _ => ⟨esc l, .inr (.inr (.inr rfl))⟩⟩
        | 1, _, h => simp at h; subst h; exact ⟨by decide, by decide, by decide, fun h => by cases h⟩
        | 2, _, h => simp at h; subst h; exact ⟨by decide, by decide, by decide, fun h => by cases h⟩
        | 3, _, h => simp at h; subst h; exact ⟨by decide, by decide, by decide, fun h => by cases h⟩
        | 4, _, h => simp at h; subst h; exact ⟨by decide, by decide, by decide, fun h => by cases h⟩
        | 5, _, h => simp at h; subst h; exact ⟨by decide, by decide, by decide, fun h => by cases h⟩
      rw [escB_other h38 h60 h62 h34] at h hi
      match i, hi, h with
      | 0, _, h => simp at h; subst h; exact ⟨h60, h62, h34, fun h => absurd h h38⟩
    · rw [List.getElem?_append_right hi] at h
      have hd : (escB a ++ esc l).drop i = (esc l).drop (i - (escB a).length) := by
        rw [List.drop_append, List.drop_eq_nil_of_le hi, List.nil_append]
      rw [hd]
      exact ih _ _ h
end Go.Proofs.Ytlombemkjjalkaa
