/- The languages of the house's rules. -/
import Derived.Test.YteeindicpbcjaaaGreatDoorHouseC
import Derived.Test.YteeindicpbcjaaaGreatDoorLang
namespace Go.Proofs.YteeindicpbcjaaaGreatDoor
open Go.RowKit
set_option linter.unusedVariables false
set_option linter.unusedSimpArgs false

theorem one_path {ty : List Int} {nn : Bool} : ∀ (w : List Int) (x : Int), Path [ty] [[0]] ⟨nn, [0], [0]⟩ w x ↔ (w = [] ∧ x = -1) ∨ (w ≠ [] ∧ x = 0 ∧ ∀ t ∈ w, t ∈ ty) := by
  refine rev_ind (fun x => ?_) (fun w t ih x => ?_)
  · constructor
    · exact fun h => .inl ⟨rfl, h.nil_inv⟩
    · rintro (⟨_, rfl⟩ | ⟨h, _⟩)
      · exact .nil
      · exact absurd rfl h
  · constructor
    · intro h
      obtain ⟨y, h1, h2, h3⟩ := h.snoc_inv
      have hx : x = 0 := by
        rcases (ih y).1 h1 with ⟨_, rfl⟩ | ⟨_, rfl, _⟩
        · simpa [nextsOf] using h2
        · simpa [nextsOf] using h2
      subst hx
      refine .inr ⟨by simp, rfl, fun u hu => ?_⟩
      rcases List.mem_append.1 hu with hu | hu
      · rcases (ih y).1 h1 with ⟨rfl, _⟩ | ⟨_, _, h4⟩
        · cases hu
        · exact h4 u hu
      · rw [List.mem_singleton.1 hu]
        simpa using h3
    · rintro (⟨h, _⟩ | ⟨_, rfl, h⟩)
      · simp at h
      · have ht : t ∈ ty := h t (by simp)
        by_cases hw : w = []
        · subst hw
          exact .snoc [] (-1) 0 t .nil (by simp [nextsOf]) (by simpa using ht)
        · exact .snoc w 0 0 t ((ih 0).2 (.inr ⟨hw, rfl, fun u hu => h u (by simp [hu])⟩)) (by simp [nextsOf]) (by simpa using ht)
theorem none_path {p : Part} (hp : p.first = []) : ∀ (w : List Int) (x : Int), Path [] [] p w x ↔ (w = [] ∧ x = -1) := by
  refine rev_ind (fun x => ?_) (fun w t ih x => ?_)
  · constructor
    · exact fun h => ⟨rfl, h.nil_inv⟩
    · rintro ⟨_, rfl⟩
      exact .nil
  · constructor
    · intro h
      obtain ⟨y, h1, h2, h3⟩ := h.snoc_inv
      simp at h3
    · rintro ⟨h, _⟩
      simp at h
def tyOf (g : List Grp) (e : Ex) : List Int := (mcT g e).headD []
def nnOf (g : List Grp) (e : Ex) : Bool := (mcP g e).none
structure Sig (g : List Grp) (e : Ex) : Prop where
  live : ∀ w : List Int, w.length ≤ regBegins e g w ↔ ∀ t ∈ w, t ∈ tyOf g e
  acc : ∀ w : List Int, regAccepts e g w = true ↔ (w = [] → nnOf g e = true) ∧ ∀ t ∈ w, t ∈ tyOf g e
theorem begins_iff {g : List Grp} {e : Ex} (hc : regCheck e g = 0) (w : List Int) : w.length ≤ regBegins e g w ↔ LiveE e g w := by
  rw [begins_eq hc, ← run_full hc]
  have := (run_spec hc w).2.1
  omega
theorem sig_one {g : List Grp} {e : Ex} (hc : regCheck e g = 0) {ty : List Int} {nn : Bool} (h1 : mcT g e = [ty]) (h2 : mcF g e = [[0]]) (h3 : mcP g e = ⟨nn, [0], [0]⟩) : Sig g e := by
  have hty : tyOf g e = ty := by unfold tyOf; rw [h1]; rfl
  have hnn : nnOf g e = nn := by unfold nnOf; rw [h3]
  have hp : ∀ w x, Path (mcT g e) (mcF g e) (mcP g e) w x ↔ (w = [] ∧ x = -1) ∨ (w ≠ [] ∧ x = 0 ∧ ∀ t ∈ w, t ∈ ty) := by
    rw [h1, h2, h3]
    exact one_path
  refine ⟨fun w => ?_, fun w => ?_⟩
  · rw [begins_iff hc, hty]
    constructor
    · rintro ⟨x, hx⟩ t ht
      rcases (hp w x).1 hx with ⟨rfl, _⟩ | ⟨_, _, h⟩
      · cases ht
      · exact h t ht
    · intro h
      by_cases hw : w = []
      · exact ⟨-1, (hp w _).2 (.inl ⟨hw, rfl⟩)⟩
      · exact ⟨0, (hp w _).2 (.inr ⟨hw, rfl, h⟩)⟩
  · rw [accepts_iff, hty, hnn]
    constructor
    · rintro ⟨_, x, hx, he⟩
      rcases (hp w x).1 hx with ⟨rfl, rfl⟩ | ⟨hw, rfl, h⟩
      · refine ⟨fun _ => ?_, fun t ht => by cases ht⟩
        rw [h3] at he
        simpa [endS] using he
      · exact ⟨fun e => absurd e hw, h⟩
    · rintro ⟨ha, h⟩
      refine ⟨hc, ?_⟩
      by_cases hw : w = []
      · exact ⟨-1, (hp w _).2 (.inl ⟨hw, rfl⟩), by rw [h3]; simp [endS, ha hw]⟩
      · exact ⟨0, (hp w _).2 (.inr ⟨hw, rfl, h⟩), by rw [h3]; simp [endS]⟩
theorem sig_none {g : List Grp} {e : Ex} (hc : regCheck e g = 0) (h1 : mcT g e = []) (h2 : mcF g e = []) (h3 : (mcP g e).first = []) (h4 : (mcP g e).none = true) : Sig g e := by
  have hty : tyOf g e = [] := by unfold tyOf; rw [h1]; rfl
  have hp : ∀ w x, Path (mcT g e) (mcF g e) (mcP g e) w x ↔ (w = [] ∧ x = -1) := by
    rw [h1, h2]
    exact none_path h3
  refine ⟨fun w => ?_, fun w => ?_⟩
  · rw [begins_iff hc, hty]
    constructor
    · rintro ⟨x, hx⟩ t ht
      rw [((hp w x).1 hx).1] at ht
      cases ht
    · intro h
      have hw : w = [] := List.eq_nil_iff_forall_not_mem.2 (fun t ht => by have := h t ht; cases this)
      exact ⟨-1, (hp w _).2 ⟨hw, rfl⟩⟩
  · rw [accepts_iff, hty]
    constructor
    · rintro ⟨_, x, hx, he⟩
      obtain ⟨rfl, _⟩ := (hp w x).1 hx
      exact ⟨fun _ => h4, fun t ht => by cases ht⟩
    · rintro ⟨ha, h⟩
      have hw : w = [] := List.eq_nil_iff_forall_not_mem.2 (fun t ht => by have := h t ht; cases this)
      exact ⟨hc, -1, (hp w _).2 ⟨hw, rfl⟩, by simp [endS, h4]⟩
theorem house_check_all : ((List.range 9).all fun i => decide (regCheck (ruleOf houseRules i).2 houseGroups = 0)) = true := by kernel_rfl
theorem house_rule (t : Int) : ∃ i : Nat, i < 9 ∧ ruleOf houseRules t = ruleOf houseRules (i : Int) := by
  by_cases h : t.toNat < 9
  · refine ⟨t.toNat, h, ?_⟩
    unfold ruleOf
    rfl
  · refine ⟨8, by omega, ?_⟩
    unfold ruleOf
    rw [List.getElem?_eq_none (by rw [house_len]; omega), List.getElem?_eq_none (by rw [house_len]; decide)]
theorem sig_nat (i : Nat) (hi : i < 9) : Sig houseGroups (ruleOf houseRules (i : Int)).2 := by
  have hc : regCheck (ruleOf houseRules (i : Int)).2 houseGroups = 0 := by simpa using List.all_eq_true.1 house_check_all i (List.mem_range.2 hi)
  have h : i = 0 ∨ i = 1 ∨ i = 2 ∨ i = 3 ∨ i = 4 ∨ i = 5 ∨ i = 6 ∨ i = 7 ∨ i = 8 := by omega
  rcases h with rfl | rfl | rfl | rfl | rfl | rfl | rfl | rfl | rfl
  · exact sig_one hc (ty := [1, 2, 3, 4, 5, 7]) (nn := false) (by kernel_rfl) (by kernel_rfl) (by kernel_rfl)
  · exact sig_one hc (ty := [0]) (nn := true) (by kernel_rfl) (by kernel_rfl) (by kernel_rfl)
  · exact sig_one hc (ty := [0]) (nn := true) (by kernel_rfl) (by kernel_rfl) (by kernel_rfl)
  · exact sig_one hc (ty := [1, 2, 3, 4, 5, 7]) (nn := false) (by kernel_rfl) (by kernel_rfl) (by kernel_rfl)
  · exact sig_one hc (ty := [0]) (nn := true) (by kernel_rfl) (by kernel_rfl) (by kernel_rfl)
  · exact sig_one hc (ty := [6]) (nn := false) (by kernel_rfl) (by kernel_rfl) (by kernel_rfl)
  · exact sig_one hc (ty := [1, 2, 3, 4, 5, 7]) (nn := false) (by kernel_rfl) (by kernel_rfl) (by kernel_rfl)
  · exact sig_none hc (by kernel_rfl) (by kernel_rfl) (by kernel_rfl) (by kernel_rfl)
  · exact sig_none hc (by kernel_rfl) (by kernel_rfl) (by kernel_rfl) (by kernel_rfl)
theorem house_sig (t : Int) : Sig houseGroups (ruleOf houseRules t).2 := by
  obtain ⟨i, hi, h⟩ := house_rule t
  rw [h]
  exact sig_nat i hi
end Go.Proofs.YteeindicpbcjaaaGreatDoor
