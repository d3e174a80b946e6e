/- The words of a machine, as paths. -/
import Derived.Test.YtfapglhdakhbeaaGreatDoorMOk
namespace Go.Proofs.YtfapglhdakhbeaaGreatDoor
open Go.RowKit
set_option linter.unusedVariables false
set_option linter.unusedSimpArgs false

/-- A word leads to a place. -/
inductive Path (ts fs : List (List Int)) (p : Part) : List Int → Int → Prop
  | nil : Path ts fs p [] (-1)
  | snoc (w : List Int) (x y t : Int) : Path ts fs p w x → y ∈ nextsOf fs p x → t ∈ ts.getD y.toNat [] → Path ts fs p (w ++ [t]) y
theorem Path.nil_inv {ts fs : List (List Int)} {p : Part} {y : Int} (h : Path ts fs p [] y) : y = -1 := by
  generalize hw : ([] : List Int) = w at h
  cases h with
  | nil => rfl
  | snoc w x y t _ _ _ => simp at hw
theorem Path.snoc_inv {ts fs : List (List Int)} {p : Part} {w : List Int} {t y : Int} (h : Path ts fs p (w ++ [t]) y) : ∃ x, Path ts fs p w x ∧ y ∈ nextsOf fs p x ∧ t ∈ ts.getD y.toNat [] := by
  generalize hw : w ++ [t] = w' at h
  cases h with
  | nil => simp at hw
  | snoc w1 x y t1 h1 h2 h3 =>
    obtain ⟨rfl, rfl⟩ : w = w1 ∧ t = t1 := by
      have := List.append_inj' hw rfl
      exact ⟨this.1, by simpa using this.2⟩
    exact ⟨x, h1, h2, h3⟩
def foldS (ts fs : List (List Int)) (p : Part) (S : Int → Bool) (word : List Int) : Int → Bool := word.foldl (fun S t => stepS ts fs p S t) S
theorem stepS_iff {ts fs : List (List Int)} {p : Part} {S : Int → Bool} (hI : InS ts.length S) (t y : Int) : stepS ts fs p S t y = true ↔ ∃ x, S x = true ∧ y ∈ nextsOf fs p x ∧ t ∈ ts.getD y.toNat [] := by
  unfold stepS addS
  rw [List.any_eq_true]
  constructor
  · rintro ⟨i, hi, h⟩
    rw [Bool.and_eq_true, List.any_eq_true] at h
    obtain ⟨h1, a, ha, h2⟩ := h
    simp at h2
    obtain ⟨rfl, h3⟩ := h2
    exact ⟨_, h1, ha, by simpa [List.getD] using h3⟩
  · rintro ⟨x, h1, h2, h3⟩
    have := hI x h1
    refine ⟨(x + 1).toNat, List.mem_range.2 (by omega), ?_⟩
    have e : (((x + 1).toNat : Nat) : Int) - 1 = x := by omega
    rw [e, Bool.and_eq_true, List.any_eq_true]
    exact ⟨h1, y, h2, by simp [h3]; simpa [List.getD] using h3⟩
theorem foldS_in {ts fs : List (List Int)} {p : Part} (hM : MOk ts fs p) : ∀ (word : List Int) (S : Int → Bool), InS ts.length S → InS ts.length (foldS ts fs p S word) := by
  intro word
  induction word with
  | nil => intro S h; exact h
  | cons t r ih => intro S h; exact ih _ (stepS_in hM S t)
theorem foldS_snoc (ts fs : List (List Int)) (p : Part) (S : Int → Bool) (w : List Int) (t : Int) : foldS ts fs p S (w ++ [t]) = stepS ts fs p (foldS ts fs p S w) t := by
  unfold foldS
  rw [List.foldl_append]
  rfl
theorem rev_ind {P : List Int → Prop} (h0 : P []) (h1 : ∀ w t, P w → P (w ++ [t])) : ∀ w, P w := by
  intro w
  suffices ∀ q : List Int, P q.reverse by simpa using this w.reverse
  intro q
  induction q with
  | nil => exact h0
  | cons t q ih => rw [List.reverse_cons]; exact h1 _ _ ih
theorem foldS_iff {ts fs : List (List Int)} {p : Part} (hM : MOk ts fs p) : ∀ (w : List Int) (y : Int), foldS ts fs p startS w y = true ↔ Path ts fs p w y := by
  refine rev_ind (fun y => ?_) (fun w t ih y => ?_)
  · constructor
    · intro h
      have : y = -1 := by simpa [foldS, startS] using h
      subst this
      exact .nil
    · intro h
      rw [h.nil_inv]
      rfl
  · rw [foldS_snoc, stepS_iff (foldS_in hM w _ (startS_in _))]
    constructor
    · rintro ⟨x, h1, h2, h3⟩
      exact .snoc w x y t ((ih x).1 h1) h2 h3
    · intro h
      obtain ⟨x, h1, h2, h3⟩ := h.snoc_inv
      exact ⟨x, (ih x).2 h1, h2, h3⟩
theorem emptyS_iff {T : Nat} {S : Int → Bool} (hI : InS T S) : emptyS T S = true ↔ ∀ x, S x = false := by
  unfold emptyS
  rw [Bool.not_eq_true', List.any_eq_false]
  constructor
  · intro h x
    cases hx : S x
    · rfl
    · have h1 := hI x hx
      have := h (x + 1).toNat (List.mem_range.2 (by omega))
      have e : (((x + 1).toNat : Nat) : Int) - 1 = x := by omega
      rw [e] at this
      exact absurd hx this
  · intro h i _
    rw [h]
    simp
/-- A word may go on. -/
def Live (ts fs : List (List Int)) (p : Part) (w : List Int) : Prop := ∃ x, Path ts fs p w x
theorem Live.nil (ts fs : List (List Int)) (p : Part) : Live ts fs p [] := ⟨-1, .nil⟩
theorem Live.init {ts fs : List (List Int)} {p : Part} {w : List Int} {t : Int} (h : Live ts fs p (w ++ [t])) : Live ts fs p w := by
  obtain ⟨y, h⟩ := h
  obtain ⟨x, h, _⟩ := h.snoc_inv
  exact ⟨x, h⟩
theorem Live.app {ts fs : List (List Int)} {p : Part} {w : List Int} : ∀ v, Live ts fs p (w ++ v) → Live ts fs p w := by
  refine rev_ind (fun h => by simpa using h) (fun v t ih h => ?_)
  rw [← List.append_assoc] at h
  exact ih h.init
theorem Live.take {ts fs : List (List Int)} {p : Part} {w : List Int} {k n : Nat} (h : Live ts fs p (w.take n)) (hk : k ≤ n) : Live ts fs p (w.take k) := by
  have : w.take n = w.take k ++ (w.take n).drop k := by
    conv => lhs; rw [← List.take_append_drop k (w.take n)]
    rw [List.take_take, Nat.min_eq_left hk]
  rw [this] at h
  exact Live.app _ h
theorem runS_go {ts fs : List (List Int)} {p : Part} (hM : MOk ts fs p) : ∀ (r w : List Int), Live ts fs p w →
    runS ts fs p (foldS ts fs p startS w) r = (foldS ts fs p startS (w ++ r.take (runS ts fs p (foldS ts fs p startS w) r).2), (runS ts fs p (foldS ts fs p startS w) r).2) ∧
    (runS ts fs p (foldS ts fs p startS w) r).2 ≤ r.length ∧ Live ts fs p (w ++ r.take (runS ts fs p (foldS ts fs p startS w) r).2) ∧ ((runS ts fs p (foldS ts fs p startS w) r).2 < r.length → ¬ Live ts fs p (w ++ r.take ((runS ts fs p (foldS ts fs p startS w) r).2 + 1))) := by
  intro r
  induction r with
  | nil =>
    intro w hw
    refine ⟨?_, Nat.le_refl _, by simpa [runS] using hw, fun h => absurd h (Nat.lt_irrefl _)⟩
    simp [runS]
  | cons t r ih =>
    intro w hw
    have e : stepS ts fs p (foldS ts fs p startS w) t = foldS ts fs p startS (w ++ [t]) := (foldS_snoc ..).symm
    cases hq : emptyS ts.length (stepS ts fs p (foldS ts fs p startS w) t)
    · have hl : Live ts fs p (w ++ [t]) := by
        rw [← Bool.not_eq_true, emptyS_iff (stepS_in hM _ t)] at hq
        simp only [Classical.not_forall, Bool.not_eq_false] at hq
        obtain ⟨x, hx⟩ := hq
        rw [e] at hx
        exact ⟨x, (foldS_iff hM _ _).1 hx⟩
      have e2 : runS ts fs p (foldS ts fs p startS w) (t :: r) = ((runS ts fs p (foldS ts fs p startS (w ++ [t])) r).1, (runS ts fs p (foldS ts fs p startS (w ++ [t])) r).2 + 1) := by
        rw [runS, if_neg (by rw [hq]; simp), e]
      obtain ⟨h1, h2, h3, h4⟩ := ih (w ++ [t]) hl
      rw [e2]
      simp only [List.append_assoc, List.cons_append, List.nil_append] at h1 h3 h4
      refine ⟨?_, by simp only [List.length_cons]; omega, by simpa using h3, fun h => by simpa using h4 (by simp at h; exact h)⟩
      simp only [List.take_succ_cons, Prod.mk.injEq, and_true]
      rw [h1]
    · have e2 : runS ts fs p (foldS ts fs p startS w) (t :: r) = (foldS ts fs p startS w, 0) := by
        rw [runS, if_pos hq]
      rw [e2]
      refine ⟨by simp, Nat.zero_le _, by simpa using hw, fun _ h => ?_⟩
      obtain ⟨x, hx⟩ := h
      have hx' : Path ts fs p (w ++ [t]) x := by simpa using hx
      have := (foldS_iff hM _ _).2 hx'
      rw [← e, (emptyS_iff (stepS_in hM _ t)).1 hq x] at this
      cases this
/-- What a run is. -/
theorem run_spec {g : List Grp} {e : Ex} (h : regCheck e g = 0) (w : List Int) :
    regRun e g w = (foldS (mcT g e) (mcF g e) (mcP g e) startS (w.take (regRun e g w).2), (regRun e g w).2) ∧ (regRun e g w).2 ≤ w.length ∧ Live (mcT g e) (mcF g e) (mcP g e) (w.take (regRun e g w).2) ∧
      ((regRun e g w).2 < w.length → ¬ Live (mcT g e) (mcF g e) (mcP g e) (w.take ((regRun e g w).2 + 1))) := by
  have := runS_go (mc_ok h) w [] (Live.nil _ _ _)
  simpa [regRun, foldS] using this
abbrev LiveE (e : Ex) (g : List Grp) (w : List Int) : Prop := Live (mcT g e) (mcF g e) (mcP g e) w
/-- A word of the language. -/
def AccE (e : Ex) (g : List Grp) (w : List Int) : Prop := ∃ x, Path (mcT g e) (mcF g e) (mcP g e) w x ∧ endS (mcP g e) x = true
theorem run_eq {g : List Grp} {e : Ex} (h : regCheck e g = 0) (w : List Int) (n : Nat) (hn : n ≤ w.length) (h1 : LiveE e g (w.take n)) (h2 : n < w.length → ¬ LiveE e g (w.take (n + 1))) : (regRun e g w).2 = n := by
  obtain ⟨_, a, b, c⟩ := run_spec h w
  rcases Nat.lt_trichotomy (regRun e g w).2 n with hl | hl | hl
  · exact absurd (Live.take h1 (by omega : (regRun e g w).2 + 1 ≤ n)) (c (by omega))
  · exact hl
  · exact absurd (Live.take b (by omega : n + 1 ≤ (regRun e g w).2)) (h2 (by omega))
theorem run_full {g : List Grp} {e : Ex} (h : regCheck e g = 0) (w : List Int) : (regRun e g w).2 = w.length ↔ LiveE e g w := by
  constructor
  · intro hl
    have := (run_spec h w).2.2.1
    rw [hl, List.take_length] at this
    exact this
  · intro hl
    exact run_eq h w _ (Nat.le_refl _) (by rw [List.take_length]; exact hl) (fun h => absurd h (Nat.lt_irrefl _))
theorem accepts_iff {g : List Grp} {e : Ex} (w : List Int) : regAccepts e g w = true ↔ regCheck e g = 0 ∧ AccE e g w := by
  unfold regAccepts
  rw [Bool.and_eq_true, Bool.and_eq_true, decide_eq_true_eq, decide_eq_true_eq]
  constructor
  · rintro ⟨h, h1, h2⟩
    refine ⟨h, ?_⟩
    have hM := mc_ok h
    have hS := (run_spec h w).1
    rw [h1, List.take_length] at hS
    rw [hS] at h2
    unfold endsS at h2
    rw [Bool.or_eq_true, Bool.and_eq_true, List.any_eq_true] at h2
    rcases h2 with ⟨h3, h4⟩ | ⟨a, h3, h4⟩
    · exact ⟨-1, (foldS_iff hM _ _).1 h3, by simp [endS, h4]⟩
    · have := hM.last a h3
      exact ⟨a, (foldS_iff hM _ _).1 h4, by simp [endS, h3]; right; omega⟩
  · rintro ⟨h, x, h1, h2⟩
    have hM := mc_ok h
    have hl := (run_full h w).2 ⟨x, h1⟩
    have hS := (run_spec h w).1
    rw [hl, List.take_length] at hS
    refine ⟨h, hl, ?_⟩
    rw [hS]
    exact endsS_true ((foldS_iff hM _ _).2 h1) h2
theorem begins_eq {g : List Grp} {e : Ex} (h : regCheck e g = 0) (w : List Int) : regBegins e g w = (regRun e g w).2 := by unfold regBegins; rw [if_pos h]
theorem next1_iff {g : List Grp} {e : Ex} (h : regCheck e g = 0) (w : List Int) (t : Nat) : regNext1 e g w t = true ↔ LiveE e g (w.take (regRun e g w).2 ++ [(t : Int)]) := by
  unfold regNext1
  have hM := mc_ok h
  rw [(run_spec h w).1, Bool.not_eq_true', ← Bool.not_eq_true, emptyS_iff (stepS_in hM _ _), ← foldS_snoc]
  simp only [Classical.not_forall, Bool.not_eq_false]
  constructor
  · rintro ⟨x, hx⟩
    exact ⟨x, (foldS_iff hM _ _).1 hx⟩
  · rintro ⟨x, hx⟩
    exact ⟨x, (foldS_iff hM _ _).2 hx⟩
end Go.Proofs.YtfapglhdakhbeaaGreatDoor
