/- What ?, *, + do to a language; parts and choices of two: plain. -/
import Derived.Test.YtchgeaklaeoplaaLang
namespace Go.Proofs.Ytchgeaklaeoplaa
open Go.RowKit
set_option linter.unusedVariables false
set_option linter.unusedSimpArgs false

theorem getD_modify (fs : List (List Int)) (n i : Nat) (f : List Int → List Int) : (fs.modify n f).getD i [] = if n = i ∧ i < fs.length then f (fs.getD i []) else fs.getD i [] := by
  simp only [List.getD, List.getElem?_modify]
  cases hx : fs[i]? with
  | none =>
    have := List.getElem?_eq_none_iff.1 hx
    rw [if_neg (by omega)]
    split <;> simp
  | some y =>
    have hlt := (List.getElem?_eq_some_iff.1 hx).1
    by_cases h : n = i
    · simp [h, hlt]
    · simp [h]
theorem mem_joinF : ∀ (last : List Int) (fs : List (List Int)) (first : List Int) (i : Nat) (a : Int), a ∈ (joinF fs last first).getD i [] ↔ a ∈ fs.getD i [] ∨ (i < fs.length ∧ (∃ b ∈ last, b.toNat = i) ∧ a ∈ first) := by
  intro last
  induction last with
  | nil => intro fs first i a; simp [joinF]
  | cons b r ih =>
    intro fs first i a
    have e : joinF fs (b :: r) first = joinF (fs.modify b.toNat (· ++ first)) r first := rfl
    rw [e, ih, getD_modify]
    simp only [List.length_modify, List.mem_cons, exists_eq_or_imp]
    by_cases h : b.toNat = i ∧ i < fs.length
    · rw [if_pos h, List.mem_append]
      constructor
      · rintro ((h1 | h1) | ⟨h1, h2, h3⟩)
        · exact .inl h1
        · exact .inr ⟨h.2, .inl h.1, h1⟩
        · exact .inr ⟨h1, .inr h2, h3⟩
      · rintro (h1 | ⟨h1, h2 | h2, h3⟩)
        · exact .inl (.inl h1)
        · exact .inl (.inr h3)
        · exact .inr ⟨h1, h2, h3⟩
    · rw [if_neg h]
      constructor
      · rintro (h1 | ⟨h1, h2, h3⟩)
        · exact .inl h1
        · exact .inr ⟨h1, .inr h2, h3⟩
      · rintro (h1 | ⟨h1, h2 | h2, h3⟩)
        · exact .inl h1
        · exact absurd ⟨h2, h1⟩ h
        · exact .inr ⟨h1, h2, h3⟩

/-! ### Which trees are right -/
abbrev noName : ByteArray := ⟨#[]⟩
theorem okB_lift {i j : Int} {e : Ex} (hi : i = 4 ∨ i = 5 ∨ i = 6) (hj : j = 0 ∨ j = 4 ∨ j = 5 ∨ j = 6) (h : e.okB i = true) : e.okB j = true := by
  obtain ⟨k, nm, l⟩ := e
  rw [Ex.okB] at h ⊢
  by_cases h1 : k = 1
  · rw [if_pos h1] at h ⊢; exact h
  · rw [if_neg h1] at h ⊢
    by_cases he : (k = 0 ∧ i ≠ 0) ∨ ((k = 2 ∨ k = 3) ∧ i = k) ∨ ¬ (k = 0 ∨ k = 2 ∨ k = 3 ∨ k = 4 ∨ k = 5 ∨ k = 6)
    · rw [if_pos he] at h; cases h
    · rw [if_neg he] at h
      rw [if_neg (by omega)]
      exact h
theorem okB_one {i k : Int} {e : Ex} (hk : k = 4 ∨ k = 5 ∨ k = 6) : (Ex.mk k noName [e]).okB i = e.okB k := by
  rw [Ex.okB, if_neg (by omega), if_neg (by omega)]
  have e1 : decide (leastE k ≤ [e].length) = true := by
    rcases hk with rfl | rfl | rfl <;> simp [leastE]
  have e2 : decide ([e].length ≤ mostE k [e].length) = true := by
    rcases hk with rfl | rfl | rfl <;> simp [mostE]
  rw [e1, e2]
  have e3 : noName.size = 0 := rfl
  simp [Ex.oksB, e3]
theorem check_iff (e : Ex) (g : List Grp) : regCheck e g = 0 ↔ (e.cnt ≤ 200 ∧ e.dep ≤ 60 ∧ e.okB 0 = true) ∧ longB g = false ∧ e.namedB g = true := by
  constructor
  · intro h
    obtain ⟨h1, h2, h3⟩ := regCheck_zero h
    unfold exprCheck at h1
    split at h1
    · simp at h1
    · rename_i h4
      split at h1
      · simp at h1
      · rename_i h5
        exact ⟨⟨by omega, by omega, by simpa using h5⟩, h2, h3⟩
  · rintro ⟨⟨h1, h2, h3⟩, h4, h5⟩
    have e1 : exprCheck e = 0 := by
      unfold exprCheck
      rw [if_neg (by omega), if_neg (by rw [h3]; simp)]
    unfold regCheck
    rw [e1, if_neg (by simp), if_neg (by rw [h4]; simp), if_neg (by rw [h5]; simp)]
theorem check_one {k j : Int} {e : Ex} {g : List Grp} (hk : k = 4 ∨ k = 5 ∨ k = 6) (h : regCheck (.mk k noName [e]) g = 0) : regCheck e g = 0 ∧ (j = 4 ∨ j = 5 ∨ j = 6 → regCheck (.mk j noName [e]) g = 0) := by
  rw [check_iff] at h
  obtain ⟨⟨h1, h2, h3⟩, h4, h5⟩ := h
  rw [okB_one hk] at h3
  simp only [Ex.cnt, Ex.cnts, Ex.dep, Ex.deps] at h1 h2
  rw [Ex.namedB, if_neg (by omega)] at h5
  refine ⟨(check_iff _ _).2 ⟨⟨by omega, by omega, okB_lift hk (.inl rfl) h3⟩, h4, by simpa [Ex.namedsB] using h5⟩, fun hj => (check_iff _ _).2 ⟨⟨by simp only [Ex.cnt, Ex.cnts]; omega, by simp only [Ex.dep, Ex.deps]; omega, ?_⟩, h4, ?_⟩⟩
  · rw [okB_one hj]; exact okB_lift hk (.inr hj) h3
  · rw [Ex.namedB, if_neg (by omega)]; exact h5
theorem glu_one {k : Int} {nm : ByteArray} {e : Ex} {g : List Grp} {s : St} (hk : k = 4 ∨ k = 5 ∨ k = 6) : glu g (.mk k nm [e]) s = (((glu g e s).1.1, if k ≠ 6 then joinF (glu g e s).1.2 (glu g e s).2.last (glu g e s).2.first else (glu g e s).1.2), ⟨(glu g e s).2.none || decide (k ≠ 5), (glu g e s).2.first, (glu g e s).2.last⟩) := by
  rw [glu, if_neg (by omega), if_neg (by omega), if_neg (by omega), if_neg (by omega)]
  rfl

/-! ### Signs -/
theorem Path.mono {ts fs fs' : List (List Int)} {p p' : Part} (h : ∀ x y, y ∈ nextsOf fs p x → y ∈ nextsOf fs' p' x) {w : List Int} {x : Int} (hp : Path ts fs p w x) : Path ts fs' p' w x := by
  induction hp with
  | nil => exact .nil
  | snoc w x y t _ h2 h3 ih => exact .snoc w x y t ih (h x y h2) h3
theorem Path.zero {ts fs : List (List Int)} {p : Part} (hM : MOk ts fs p) {w : List Int} {x : Int} (hp : Path ts fs p w x) : (w = [] ∧ x = -1) ∨ (w ≠ [] ∧ 0 ≤ x ∧ x < ts.length) := by
  cases hp with
  | nil => exact .inl ⟨rfl, rfl⟩
  | snoc w x y t _ h2 h3 => exact .inr ⟨by simp, hM.ok _ _ h2⟩
theorem nexts_join {fs : List (List Int)} {p : Part} {nn : Bool} {x y : Int} (h : y ∈ nextsOf fs p x) : y ∈ nextsOf (joinF fs p.last p.first) ⟨nn, p.first, p.last⟩ x := by
  unfold nextsOf at h ⊢
  split
  · rename_i hx; rw [if_pos hx] at h; exact h
  · rename_i hx
    rw [if_neg hx] at h
    rw [mem_joinF]
    exact .inl h
theorem acc_nil {e : Ex} {g : List Grp} (hM : MOk (mcT g e) (mcF g e) (mcP g e)) : AccE e g [] ↔ (mcP g e).none = true := by
  constructor
  · rintro ⟨x, h1, h2⟩
    rw [h1.nil_inv] at h2
    simpa [endS] using h2
  · intro h
    exact ⟨-1, .nil, by simp [endS, h]⟩
section
variable {e : Ex} {g : List Grp}
theorem mcT_one {k : Int} (hk : k = 4 ∨ k = 5 ∨ k = 6) : mcT g (.mk k noName [e]) = mcT g e := by unfold mcT; rw [glu_one hk]
theorem mcF_one {k : Int} (hk : k = 4 ∨ k = 5) : mcF g (.mk k noName [e]) = joinF (mcF g e) (mcP g e).last (mcP g e).first := by unfold mcF; rw [glu_one (by omega)]; simp only; rw [if_pos (by omega)]
theorem mcF_opt : mcF g (.mk 6 noName [e]) = mcF g e := by unfold mcF; rw [glu_one (by omega)]; simp
theorem mcP_one {k : Int} (hk : k = 4 ∨ k = 5 ∨ k = 6) : mcP g (.mk k noName [e]) = ⟨(mcP g e).none || decide (k ≠ 5), (mcP g e).first, (mcP g e).last⟩ := by unfold mcP; rw [glu_one hk]

theorem acc_opt (hM : MOk (mcT g e) (mcF g e) (mcP g e)) (w : List Int) : AccE (.mk 6 noName [e]) g w ↔ AccE e g w ∨ w = [] := by
  unfold AccE
  rw [mcT_one (by omega), mcF_opt, mcP_one (by omega)]
  constructor
  · rintro ⟨x, h1, h2⟩
    have h1' : Path (mcT g e) (mcF g e) (mcP g e) w x := (by refine h1.mono ?_; intro _ _ h; exact h)
    rcases h1'.zero hM with ⟨h, _⟩ | ⟨_, h3, _⟩
    · exact .inr h
    · left
      refine ⟨x, h1', ?_⟩
      have hx : x ≠ -1 := by omega
      simp [endS, hx] at h2 ⊢
      exact h2
  · rintro (⟨x, h1, h2⟩ | rfl)
    · refine ⟨x, (by refine h1.mono ?_; intro _ _ h; exact h), ?_⟩
      unfold endS at h2 ⊢
      rw [Bool.or_eq_true] at h2 ⊢
      rcases h2 with h2 | h2
      · left
        simp at h2 ⊢
        exact h2.1
      · exact .inr h2
    · exact ⟨-1, .nil, by simp [endS]⟩
theorem acc_star_nil : AccE (.mk 4 noName [e]) g [] := by
  unfold AccE
  rw [mcP_one (by omega)]
  exact ⟨-1, .nil, by simp [endS]⟩
theorem acc_plus_nil : AccE (.mk 5 noName [e]) g [] ↔ AccE e g [] := by
  unfold AccE
  rw [mcP_one (by omega)]
  constructor
  · rintro ⟨x, h1, h2⟩
    rw [h1.nil_inv] at h2
    exact ⟨-1, .nil, by simpa [endS] using h2⟩
  · rintro ⟨x, h1, h2⟩
    rw [h1.nil_inv] at h2
    exact ⟨-1, .nil, by simpa [endS] using h2⟩
theorem end_one {k x : Int} (hk : k = 4 ∨ k = 5 ∨ k = 6) (h : endS (mcP g e) x = true) : endS (mcP g (.mk k noName [e])) x = true := by
  rw [mcP_one hk]
  unfold endS at h ⊢
  rw [Bool.or_eq_true] at h ⊢
  rcases h with h | h
  · left
    simp at h ⊢
    exact ⟨h.1, .inl h.2⟩
  · exact .inr h
theorem acc_once {k : Int} (hk : k = 4 ∨ k = 5) {w : List Int} (h : AccE e g w) : AccE (.mk k noName [e]) g w := by
  obtain ⟨x, h1, h2⟩ := h
  refine ⟨x, ?_, end_one (by omega) h2⟩
  rw [mcT_one (by omega), mcF_one hk, mcP_one (by omega)]
  exact h1.mono (fun _ _ h => nexts_join h)
theorem acc_twice {k : Int} (hk : k = 4 ∨ k = 5) (hM : MOk (mcT g e) (mcF g e) (mcP g e)) {a b : List Int} (ha : AccE e g a) (hb : AccE e g b) : AccE (.mk k noName [e]) g (a ++ b) := by
  obtain ⟨x, h1, h2⟩ := ha
  rcases h1.zero hM with ⟨rfl, _⟩ | ⟨_, hx, hxl⟩
  · exact acc_once hk hb
  · obtain ⟨z, h3, h4⟩ := hb
    have hxl2 : x ∈ (mcP g e).last := by
      have hne : x ≠ -1 := by omega
      simpa [endS, hne] using h2
    have key : ∀ (v : List Int) (z : Int), Path (mcT g e) (mcF g e) (mcP g e) v z → v = [] ∨ Path (mcT g (.mk k noName [e])) (mcF g (.mk k noName [e])) (mcP g (.mk k noName [e])) (a ++ v) z := by
      intro v z hv
      induction hv with
      | nil => exact .inl rfl
      | snoc w y u t hy h5 h6 ih =>
        right
        rcases ih with rfl | ih
        · have hy1 := hy.nil_inv
          subst hy1
          rw [mcT_one (by omega), mcF_one hk, mcP_one (by omega)]
          rw [List.nil_append]
          refine .snoc a x u t (h1.mono (fun _ _ h => nexts_join h)) ?_ h6
          have hne : x ≠ -1 := by omega
          unfold nextsOf at h5 ⊢
          rw [if_pos rfl] at h5
          rw [if_neg hne, mem_joinF]
          exact .inr ⟨by have := hM.fl; omega, ⟨x, hxl2, rfl⟩, h5⟩
        · rw [← List.append_assoc]
          rw [mcT_one (by omega), mcF_one hk, mcP_one (by omega)] at ih ⊢
          exact .snoc (a ++ w) y u t ih (nexts_join h5) h6
    rcases key b z h3 with rfl | hk2
    · rw [List.append_nil]
      exact acc_once hk ⟨x, h1, h2⟩
    · exact ⟨z, hk2, end_one (by omega) h4⟩
end
end Go.Proofs.Ytchgeaklaeoplaa
