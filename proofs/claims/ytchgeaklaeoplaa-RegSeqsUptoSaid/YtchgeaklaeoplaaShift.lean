/- A machine built behind another one: the same, its places further on; parts and choices of two. -/
import Derived.Test.YtchgeaklaeoplaaSigns
namespace Go.Proofs.Ytchgeaklaeoplaa
open Go.RowKit
set_option linter.unusedVariables false
set_option linter.unusedSimpArgs false

def shL (n : Nat) (l : List Int) : List Int := l.map (fun a => a + (n : Int))
def shP (n : Nat) (p : Part) : Part := ⟨p.none, shL n p.first, shL n p.last⟩
def pre (P Q : List (List Int)) (s : St) : St := (P ++ s.1, Q ++ s.2.map (shL P.length))
theorem shL_app (n : Nat) (a b : List Int) : shL n (a ++ b) = shL n a ++ shL n b := by simp [shL]
theorem modify_app (Q X : List (List Int)) (k : Nat) (f : List Int → List Int) : (Q ++ X).modify (Q.length + k) f = Q ++ X.modify k f := by
  apply List.ext_getElem?
  intro i
  rw [List.getElem?_modify]
  by_cases h : i < Q.length
  · rw [List.getElem?_append_left h, List.getElem?_append_left h]
    have hne : ¬ (Q.length + k = i) := by omega
    simp [hne]
  · rw [List.getElem?_append_right (by omega), List.getElem?_append_right (by omega), List.getElem?_modify]
    by_cases h2 : Q.length + k = i
    · have h3 : k = i - Q.length := by omega
      simp [h2, ← h3]
    · have h3 : ¬ k = i - Q.length := by omega
      simp [h2, h3]
theorem modify_sh (X : List (List Int)) (n k : Nat) (y : List Int) : (X.map (shL n)).modify k (· ++ shL n y) = (X.modify k (· ++ y)).map (shL n) := by
  apply List.ext_getElem?
  intro i
  rw [List.getElem?_modify, List.getElem?_map, List.getElem?_map, List.getElem?_modify]
  cases X[i]? with
  | none => simp
  | some z =>
    by_cases h : k = i
    · simp [h, shL_app]
    · simp [h]
theorem joinF_pre (Q : List (List Int)) (first : List Int) : ∀ (last : List Int) (X : List (List Int)), (∀ a ∈ last, 0 ≤ a) → joinF (Q ++ X.map (shL Q.length)) (shL Q.length last) (shL Q.length first) = Q ++ (joinF X last first).map (shL Q.length) := by
  intro last
  induction last with
  | nil => intro X _; rfl
  | cons a r ih =>
    intro X h
    have h0 := h a (by simp)
    have e : (a + (Q.length : Int)).toNat = Q.length + a.toNat := by omega
    have e1 : joinF (Q ++ X.map (shL Q.length)) (shL Q.length (a :: r)) (shL Q.length first) = joinF ((Q ++ X.map (shL Q.length)).modify (a + (Q.length : Int)).toNat (· ++ shL Q.length first)) (shL Q.length r) (shL Q.length first) := rfl
    have e2 : joinF X (a :: r) first = joinF (X.modify a.toNat (· ++ first)) r first := rfl
    rw [e1, e2, e, modify_app, modify_sh]
    exact ih _ (fun b hb => h b (by simp [hb]))
theorem sh_ite (n : Nat) (c : Bool) (a b : List Int) : shL n (if c = true then a else b) = if c = true then shL n a else shL n b := by split <;> rfl
/-- One part more of a row. -/
def seqStep (p q : Part) : Part := ⟨p.none && q.none, if p.none = true then p.first ++ q.first else p.first, if q.none = true then p.last ++ q.last else q.last⟩
theorem seqStep_sh (n : Nat) (p q : Part) : seqStep (shP n p) (shP n q) = shP n (seqStep p q) := by
  obtain ⟨pn, pf, pl⟩ := p
  obtain ⟨qn, qf, ql⟩ := q
  cases pn <;> cases qn <;> simp [seqStep, shP, shL_app]
theorem gluSeq_step (g : List Grp) (x : Ex) (r : List Ex) (s : St) (p : Part) : gluSeq g (x :: r) s p = gluSeq g r ((glu g x s).1.1, joinF (glu g x s).1.2 p.last (glu g x s).2.first) (seqStep p (glu g x s).2) := by
  rw [gluSeq]; rfl
mutual
theorem glu_pre (g : List Grp) (P Q : List (List Int)) (h : Q.length = P.length) : ∀ (e : Ex) (s : St), glu g e (pre P Q s) = (pre P Q (glu g e s).1, shP P.length (glu g e s).2)
  | .mk k nm l, s => by
    rw [glu, glu]
    by_cases h0 : k = 0
    · rw [if_pos h0, if_pos h0]; rfl
    · rw [if_neg h0, if_neg h0]
      by_cases h1 : k = 1
      · rw [if_pos h1, if_pos h1]
        have e : ((P.length + s.1.length : Nat) : Int) = (s.1.length : Int) + (P.length : Int) := by omega
        simp only [pre, shP, shL, List.length_append, List.map_cons, List.map_nil, List.append_assoc, List.map_append, e]
      · rw [if_neg h1, if_neg h1]
        by_cases h3 : k = 3
        · rw [if_pos h3, if_pos h3]
          exact gluAlt_pre g P Q h l s ⟨false, [], []⟩
        · rw [if_neg h3, if_neg h3]
          by_cases h2 : k = 2
          · rw [if_pos h2, if_pos h2]
            exact gluSeq_pre g P Q h l s ⟨true, [], []⟩ (by simp)
          · rw [if_neg h2, if_neg h2]
            have h4 := gluOne_pre g P Q h l s
            have h5 := gluOne_bd g l s
            rw [h4]
            simp only [pre, shP]
            by_cases h6 : k ≠ 6
            · rw [if_pos h6, if_pos h6]
              have := joinF_pre Q (gluOne g l s).2.first (gluOne g l s).2.last (gluOne g l s).1.2 (fun a ha => (h5.last a ha).1)
              rw [h] at this
              rw [this]
            · rw [if_neg h6, if_neg h6]
theorem gluOne_pre (g : List Grp) (P Q : List (List Int)) (h : Q.length = P.length) : ∀ (l : List Ex) (s : St), gluOne g l (pre P Q s) = (pre P Q (gluOne g l s).1, shP P.length (gluOne g l s).2)
  | [], s => rfl
  | x :: _, s => glu_pre g P Q h x s
theorem gluAlt_pre (g : List Grp) (P Q : List (List Int)) (h : Q.length = P.length) : ∀ (l : List Ex) (s : St) (p : Part), gluAlt g l (pre P Q s) (shP P.length p) = (pre P Q (gluAlt g l s p).1, shP P.length (gluAlt g l s p).2)
  | [], s, p => rfl
  | x :: r, s, p => by
    rw [gluAlt, gluAlt, glu_pre g P Q h x s]
    simp only
    have := gluAlt_pre g P Q h r (glu g x s).1 ⟨p.none || (glu g x s).2.none, p.first ++ (glu g x s).2.first, p.last ++ (glu g x s).2.last⟩
    simp only [shP, shL_app] at this ⊢
    exact this
theorem gluSeq_pre (g : List Grp) (P Q : List (List Int)) (h : Q.length = P.length) : ∀ (l : List Ex) (s : St) (p : Part), (∀ a ∈ p.last, 0 ≤ a) → gluSeq g l (pre P Q s) (shP P.length p) = (pre P Q (gluSeq g l s p).1, shP P.length (gluSeq g l s p).2)
  | [], s, p, _ => rfl
  | x :: r, s, p, hp => by
    have hj := joinF_pre Q (glu g x s).2.first p.last (glu g x s).1.2 hp
    rw [h] at hj
    have h2 := glu_bd g x s
    have := gluSeq_pre g P Q h r ((glu g x s).1.1, joinF (glu g x s).1.2 p.last (glu g x s).2.first) (seqStep p (glu g x s).2) (fun a ha => by
      rcases mem_ite_r ha with ha | ha
      · exact hp a ha
      · exact (h2.last a ha).1)
    rw [gluSeq_step, gluSeq_step, glu_pre g P Q h x s, ← this, seqStep_sh]
    show gluSeq g r (P ++ (glu g x s).1.1, joinF (Q ++ (glu g x s).1.2.map (shL P.length)) (shL P.length p.last) (shL P.length (glu g x s).2.first)) _ = _
    rw [hj]
    rfl
end
/-- A tree built behind what is there. -/
theorem glu_after (g : List Grp) (P Q : List (List Int)) (h : Q.length = P.length) (e : Ex) : glu g e (P, Q) = ((P ++ mcT g e, Q ++ (mcF g e).map (shL P.length)), shP P.length (mcP g e)) := by
  have := glu_pre g P Q h e ([], [])
  have e0 : pre P Q ([], []) = (P, Q) := by simp [pre]
  rw [e0] at this
  exact this
end Go.Proofs.Ytchgeaklaeoplaa
