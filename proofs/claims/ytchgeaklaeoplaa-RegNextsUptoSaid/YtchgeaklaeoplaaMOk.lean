/- The machine of a right tree may be run; what a language says, reckoned. -/
import Derived.Test.YtchgeaklaeoplaaRun
namespace Go.Proofs.Ytchgeaklaeoplaa
open Go.RowKit
set_option linter.unusedVariables false
set_option linter.unusedSimpArgs false

/-- Followers are places. -/
def FrIn (s : St) : Prop := s.2.length = s.1.length ∧ ∀ x ∈ s.2, ∀ a ∈ x, 0 ≤ a ∧ a < s.1.length
theorem joinF_in {fs : List (List Int)} {last first : List Int} {n : Nat} (h : ∀ x ∈ fs, ∀ a ∈ x, 0 ≤ a ∧ a < n) (hf : ∀ a ∈ first, 0 ≤ a ∧ a < n) : ∀ x ∈ joinF fs last first, ∀ a ∈ x, 0 ≤ a ∧ a < n := by
  unfold joinF
  induction last generalizing fs with
  | nil => exact h
  | cons b r ih =>
    simp only [List.foldl_cons]
    refine ih (fun x hx a ha => ?_)
    rw [List.mem_iff_getElem?] at hx
    obtain ⟨i, hi⟩ := hx
    rw [List.getElem?_modify] at hi
    split at hi
    · obtain ⟨y, hy, rfl⟩ := Option.map_eq_some_iff.1 hi
      rcases List.mem_append.1 ha with ha | ha
      · exact h y (List.mem_of_getElem? hy) a ha
      · exact hf a ha
    · obtain ⟨y, hy, rfl⟩ := Option.map_eq_some_iff.1 hi
      exact h y (List.mem_of_getElem? hy) a ha
theorem FrIn.up {s : St} {n : Nat} (h : FrIn s) (hn : s.1.length ≤ n) : ∀ x ∈ s.2, ∀ a ∈ x, 0 ≤ a ∧ a < n := fun x hx a ha => by have := h.2 x hx a ha; omega
mutual
theorem glu_fr (g : List Grp) : ∀ (e : Ex) (s : St), FrIn s → FrIn (glu g e s).1
  | .mk k nm l, s, hs => by
    rw [glu]
    by_cases h0 : k = 0
    · rw [if_pos h0]; exact hs
    · rw [if_neg h0]
      by_cases h1 : k = 1
      · rw [if_pos h1]
        refine ⟨by simp [hs.1], fun x hx a ha => ?_⟩
        rcases List.mem_append.1 hx with hx | hx
        · have := hs.2 x hx a ha
          simp only [List.length_append, List.length_singleton]
          omega
        · simp at hx; subst hx; cases ha
      · rw [if_neg h1]
        by_cases h3 : k = 3
        · rw [if_pos h3]; exact gluAlt_fr g l s _ hs
        · rw [if_neg h3]
          by_cases h2 : k = 2
          · rw [if_pos h2]; exact gluSeq_fr g l s _ hs (by simp)
          · rw [if_neg h2]
            have h4 := gluOne_fr g l s hs
            have h5 := gluOne_bd g l s
            refine ⟨?_, ?_⟩
            · dsimp only
              split
              · rw [joinF_len]; exact h4.1
              · exact h4.1
            · dsimp only
              split
              · exact joinF_in h4.2 h5.first
              · exact h4.2
theorem gluOne_fr (g : List Grp) : ∀ (l : List Ex) (s : St), FrIn s → FrIn (gluOne g l s).1
  | [], s, h => h
  | x :: _, s, h => glu_fr g x s h
theorem gluAlt_fr (g : List Grp) : ∀ (l : List Ex) (s : St) (p : Part), FrIn s → FrIn (gluAlt g l s p).1
  | [], s, p, h => h
  | x :: r, s, p, h => gluAlt_fr g r _ _ (glu_fr g x s h)
theorem gluSeq_fr (g : List Grp) : ∀ (l : List Ex) (s : St) (p : Part), FrIn s → (∀ a ∈ p.last, 0 ≤ a) → FrIn (gluSeq g l s p).1
  | [], s, p, h, _ => h
  | x :: r, s, p, h, hp => by
    have h1 := glu_fr g x s h
    have h2 := glu_bd g x s
    refine gluSeq_fr g r _ _ ⟨by rw [joinF_len]; exact h1.1, joinF_in h1.2 h2.first⟩ (fun a ha => ?_)
    rcases mem_ite_r ha with ha | ha
    · exact hp a ha
    · exact (h2.last a ha).1
end
mutual
/-- The types of places are those of names. -/
theorem glu_ty (g : List Grp) (Q : List Int → Prop) (hQ : ∀ nm, Q (typesOf g nm)) : ∀ (e : Ex) (s : St), (∀ x ∈ s.1, Q x) → ∀ x ∈ (glu g e s).1.1, Q x
  | .mk k nm l, s, hs => by
    rw [glu]
    by_cases h0 : k = 0
    · rw [if_pos h0]; exact hs
    · rw [if_neg h0]
      by_cases h1 : k = 1
      · rw [if_pos h1]
        intro x hx
        rcases List.mem_append.1 hx with hx | hx
        · exact hs x hx
        · simp at hx; subst hx; exact hQ nm
      · rw [if_neg h1]
        by_cases h3 : k = 3
        · rw [if_pos h3]; exact gluAlt_ty g Q hQ l s _ hs
        · rw [if_neg h3]
          by_cases h2 : k = 2
          · rw [if_pos h2]; exact gluSeq_ty g Q hQ l s _ hs
          · rw [if_neg h2]; exact gluOne_ty g Q hQ l s hs
theorem gluOne_ty (g : List Grp) (Q : List Int → Prop) (hQ : ∀ nm, Q (typesOf g nm)) : ∀ (l : List Ex) (s : St), (∀ x ∈ s.1, Q x) → ∀ x ∈ (gluOne g l s).1.1, Q x
  | [], s, h => h
  | x :: _, s, h => glu_ty g Q hQ x s h
theorem gluAlt_ty (g : List Grp) (Q : List Int → Prop) (hQ : ∀ nm, Q (typesOf g nm)) : ∀ (l : List Ex) (s : St) (p : Part), (∀ x ∈ s.1, Q x) → ∀ x ∈ (gluAlt g l s p).1.1, Q x
  | [], s, p, h => h
  | x :: r, s, p, h => gluAlt_ty g Q hQ r _ _ (glu_ty g Q hQ x s h)
theorem gluSeq_ty (g : List Grp) (Q : List Int → Prop) (hQ : ∀ nm, Q (typesOf g nm)) : ∀ (l : List Ex) (s : St) (p : Part), (∀ x ∈ s.1, Q x) → ∀ x ∈ (gluSeq g l s p).1.1, Q x
  | [], s, p, h => h
  | x :: r, s, p, h => gluSeq_ty g Q hQ r _ _ (glu_ty g Q hQ x s h)
end
theorem typesOf_mem (g : List Grp) (nm : ByteArray) : typesOf g nm = [] ∨ ∃ x ∈ g, typesOf g nm = x.types := by
  induction g with
  | nil => exact .inl rfl
  | cons x r ih =>
    unfold typesOf
    split
    · exact .inr ⟨x, by simp, rfl⟩
    · rcases ih with ih | ⟨y, hy, h⟩
      · exact .inl ih
      · exact .inr ⟨y, by simp [hy], h⟩
theorem long_types {g : List Grp} (h : longB g = false) : ∀ x ∈ g, x.types.length ≤ 16 ∧ ∀ t ∈ x.types, 0 ≤ t ∧ t < 16 := by
  unfold longB at h
  rw [Bool.or_eq_false_iff, List.any_eq_false] at h
  intro x hx
  have := h.2 x hx
  unfold grpB at this
  rw [Bool.not_eq_true, Bool.or_eq_false_iff, List.any_eq_false] at this
  refine ⟨by have := this.1; simp at this; exact this, fun t ht => ?_⟩
  have := this.2 t ht
  unfold outB at this
  simp at this
  exact this
/-- The machine of a tree. -/
abbrev mcT (g : List Grp) (e : Ex) : List (List Int) := (glu g e ([], [])).1.1
abbrev mcF (g : List Grp) (e : Ex) : List (List Int) := (glu g e ([], [])).1.2
abbrev mcP (g : List Grp) (e : Ex) : Part := (glu g e ([], [])).2
theorem mc_ok {g : List Grp} {e : Ex} (h : regCheck e g = 0) : MOk (mcT g e) (mcF g e) (mcP g e) := by
  obtain ⟨h1, h2, _⟩ := regCheck_zero h
  obtain ⟨hcnt, _⟩ := exprCheck_zero h1
  have hb := glu_bd g e ([], [])
  have hf := glu_fr g e ([], []) ⟨rfl, by simp⟩
  have hfb := glu_fb g e ([], []) 0 (by simp) hcnt
  have ht := glu_ty g (fun x => x.length ≤ 16) (fun nm => by
    rcases typesOf_mem g nm with h | ⟨x, hx, h⟩
    · rw [h]; simp
    · rw [h]; exact (long_types h2 x hx).1) e ([], []) (by simp)
  have hhi := hb.hi
  simp only [List.length_nil, Nat.zero_add] at hhi
  refine ⟨by show (glu g e ([], [])).1.1.length ≤ 1000; omega, fun x hx => by have := ht x hx; omega, hf.1, fun x a ha => ?_, fun x => ?_, hb.last, by have := hb.ll; show (glu g e ([], [])).2.last.length ≤ _; omega⟩
  · unfold nextsOf at ha
    split at ha
    · exact hb.first a ha
    · cases hx : (mcF g e)[x.toNat]? with
      | none => simp [List.getD, hx] at ha
      | some y => simp [List.getD, hx] at ha; exact hf.2 y (List.mem_of_getElem? hx) a ha
  · unfold nextsOf
    split
    · have := hb.fl; show (glu g e ([], [])).2.first.length ≤ _; omega
    · cases hx : (mcF g e)[x.toNat]? with
      | none => simp [List.getD, hx]
      | some y => simp [List.getD, hx]; have := hfb y (List.mem_of_getElem? hx); omega

/-- What reg.Accepts, Begins, Nexts say. -/
def regRun (e : Ex) (g : List Grp) (word : List Int) : (Int → Bool) × Nat := runS (mcT g e) (mcF g e) (mcP g e) startS word
def regAccepts (e : Ex) (g : List Grp) (word : List Int) : Bool := decide (regCheck e g = 0) && (decide ((regRun e g word).2 = word.length) && endsS (mcP g e) (regRun e g word).1)
def regBegins (e : Ex) (g : List Grp) (word : List Int) : Nat := if regCheck e g = 0 then (regRun e g word).2 else 0
def regNext1 (e : Ex) (g : List Grp) (word : List Int) (t : Nat) : Bool := !emptyS (mcT g e).length (stepS (mcT g e) (mcF g e) (mcP g e) (regRun e g word).1 t)
def regNexts (e : Ex) (g : List Grp) (word : List Int) : List Int := if regCheck e g = 0 ∧ (regRun e g word).2 = word.length then ((List.range 16).filter (regNext1 e g word)).map (fun t : Nat => (t : Int)) else []
theorem runS_le (ts fs : List (List Int)) (p : Part) : ∀ (word : List Int) (S : Int → Bool), (runS ts fs p S word).2 ≤ word.length := by
  intro word
  induction word with
  | nil => intro S; exact Nat.le_refl _
  | cons t r ih =>
    intro S
    unfold runS
    split
    · exact Nat.zero_le _
    · exact Nat.succ_le_succ (ih _)
end Go.Proofs.Ytchgeaklaeoplaa
