/- The languages of the house's rules. What schema.Check walks through, as runs of a stack of levels (plain). -/
import Derived.Test.YtfapglhdakhbeaaGreatDoorHouseC
import Derived.Test.YtfapglhdakhbeaaGreatDoorLang
import Derived.Test.YtfapglhdakhbeaaGreatDoorRowK
namespace Go.Proofs.YtfapglhdakhbeaaGreatDoor
open Go.RowKit
set_option linter.unusedVariables false
set_option linter.unusedSimpArgs false

theorem one_path {ty : List Int} {nn : Bool} : ∀ (w : List Int) (x : Int), Path [ty] [[0]] ⟨nn, [0], [0]⟩ w x ↔ (w = [] ∧ x = -1) ∨ (w ≠ [] ∧ x = 0 ∧ ∀ t ∈ w, t ∈ ty) := by
  refine rev_ind (fun x => ?_) (fun w t ih x => ?_)
  · constructor
    · exact fun h => .inl ⟨rfl, h.nil_inv⟩
    · rintro (⟨_, rfl⟩ | ⟨h, _⟩)
      · exact .nil
      · exact absurd rfl h
  · constructor
    · intro h
      obtain ⟨y, h1, h2, h3⟩ := h.snoc_inv
      have hx : x = 0 := by
        rcases (ih y).1 h1 with ⟨_, rfl⟩ | ⟨_, rfl, _⟩
        · simpa [nextsOf] using h2
        · simpa [nextsOf] using h2
      subst hx
      refine .inr ⟨by simp, rfl, fun u hu => ?_⟩
      rcases List.mem_append.1 hu with hu | hu
      · rcases (ih y).1 h1 with ⟨rfl, _⟩ | ⟨_, _, h4⟩
        · cases hu
        · exact h4 u hu
      · rw [List.mem_singleton.1 hu]
        simpa using h3
    · rintro (⟨h, _⟩ | ⟨_, rfl, h⟩)
      · simp at h
      · have ht : t ∈ ty := h t (by simp)
        by_cases hw : w = []
        · subst hw
          exact .snoc [] (-1) 0 t .nil (by simp [nextsOf]) (by simpa using ht)
        · exact .snoc w 0 0 t ((ih 0).2 (.inr ⟨hw, rfl, fun u hu => h u (by simp [hu])⟩)) (by simp [nextsOf]) (by simpa using ht)
theorem none_path {p : Part} (hp : p.first = []) : ∀ (w : List Int) (x : Int), Path [] [] p w x ↔ (w = [] ∧ x = -1) := by
  refine rev_ind (fun x => ?_) (fun w t ih x => ?_)
  · constructor
    · exact fun h => ⟨rfl, h.nil_inv⟩
    · rintro ⟨_, rfl⟩
      exact .nil
  · constructor
    · intro h
      obtain ⟨y, h1, h2, h3⟩ := h.snoc_inv
      simp at h3
    · rintro ⟨h, _⟩
      simp at h
def tyOf (g : List Grp) (e : Ex) : List Int := (mcT g e).headD []
def nnOf (g : List Grp) (e : Ex) : Bool := (mcP g e).none
structure Sig (g : List Grp) (e : Ex) : Prop where
  live : ∀ w : List Int, w.length ≤ regBegins e g w ↔ ∀ t ∈ w, t ∈ tyOf g e
  acc : ∀ w : List Int, regAccepts e g w = true ↔ (w = [] → nnOf g e = true) ∧ ∀ t ∈ w, t ∈ tyOf g e
theorem begins_iff {g : List Grp} {e : Ex} (hc : regCheck e g = 0) (w : List Int) : w.length ≤ regBegins e g w ↔ LiveE e g w := by
  rw [begins_eq hc, ← run_full hc]
  have := (run_spec hc w).2.1
  omega
theorem sig_one {g : List Grp} {e : Ex} (hc : regCheck e g = 0) {ty : List Int} {nn : Bool} (h1 : mcT g e = [ty]) (h2 : mcF g e = [[0]]) (h3 : mcP g e = ⟨nn, [0], [0]⟩) : Sig g e := by
  have hty : tyOf g e = ty := by unfold tyOf; rw [h1]; rfl
  have hnn : nnOf g e = nn := by unfold nnOf; rw [h3]
  have hp : ∀ w x, Path (mcT g e) (mcF g e) (mcP g e) w x ↔ (w = [] ∧ x = -1) ∨ (w ≠ [] ∧ x = 0 ∧ ∀ t ∈ w, t ∈ ty) := by
    rw [h1, h2, h3]
    exact one_path
  refine ⟨fun w => ?_, fun w => ?_⟩
  · rw [begins_iff hc, hty]
    constructor
    · rintro ⟨x, hx⟩ t ht
      rcases (hp w x).1 hx with ⟨rfl, _⟩ | ⟨_, _, h⟩
      · cases ht
      · exact h t ht
    · intro h
      by_cases hw : w = []
      · exact ⟨-1, (hp w _).2 (.inl ⟨hw, rfl⟩)⟩
      · exact ⟨0, (hp w _).2 (.inr ⟨hw, rfl, h⟩)⟩
  · rw [accepts_iff, hty, hnn]
    constructor
    · rintro ⟨_, x, hx, he⟩
      rcases (hp w x).1 hx with ⟨rfl, rfl⟩ | ⟨hw, rfl, h⟩
      · refine ⟨fun _ => ?_, fun t ht => by cases ht⟩
        rw [h3] at he
        simpa [endS] using he
      · exact ⟨fun e => absurd e hw, h⟩
    · rintro ⟨ha, h⟩
      refine ⟨hc, ?_⟩
      by_cases hw : w = []
      · exact ⟨-1, (hp w _).2 (.inl ⟨hw, rfl⟩), by rw [h3]; simp [endS, ha hw]⟩
      · exact ⟨0, (hp w _).2 (.inr ⟨hw, rfl, h⟩), by rw [h3]; simp [endS]⟩
theorem sig_none {g : List Grp} {e : Ex} (hc : regCheck e g = 0) (h1 : mcT g e = []) (h2 : mcF g e = []) (h3 : (mcP g e).first = []) (h4 : (mcP g e).none = true) : Sig g e := by
  have hty : tyOf g e = [] := by unfold tyOf; rw [h1]; rfl
  have hp : ∀ w x, Path (mcT g e) (mcF g e) (mcP g e) w x ↔ (w = [] ∧ x = -1) := by
    rw [h1, h2]
    exact none_path h3
  refine ⟨fun w => ?_, fun w => ?_⟩
  · rw [begins_iff hc, hty]
    constructor
    · rintro ⟨x, hx⟩ t ht
      rw [((hp w x).1 hx).1] at ht
      cases ht
    · intro h
      have hw : w = [] := List.eq_nil_iff_forall_not_mem.2 (fun t ht => by have := h t ht; cases this)
      exact ⟨-1, (hp w _).2 ⟨hw, rfl⟩⟩
  · rw [accepts_iff, hty]
    constructor
    · rintro ⟨_, x, hx, he⟩
      obtain ⟨rfl, _⟩ := (hp w x).1 hx
      exact ⟨fun _ => h4, fun t ht => by cases ht⟩
    · rintro ⟨ha, h⟩
      have hw : w = [] := List.eq_nil_iff_forall_not_mem.2 (fun t ht => by have := h t ht; cases this)
      exact ⟨hc, -1, (hp w _).2 ⟨hw, rfl⟩, by simp [endS, h4]⟩
theorem house_check_all : ((List.range 9).all fun i => decide (regCheck (ruleOf houseRules i).2 houseGroups = 0)) = true := by kernel_rfl
theorem house_rule (t : Int) : ∃ i : Nat, i < 9 ∧ ruleOf houseRules t = ruleOf houseRules (i : Int) := by
  by_cases h : t.toNat < 9
  · refine ⟨t.toNat, h, ?_⟩
    unfold ruleOf
    rfl
  · refine ⟨8, by omega, ?_⟩
    unfold ruleOf
    rw [List.getElem?_eq_none (by rw [house_len]; omega), List.getElem?_eq_none (by rw [house_len]; decide)]
theorem sig_nat (i : Nat) (hi : i < 9) : Sig houseGroups (ruleOf houseRules (i : Int)).2 := by
  have hc : regCheck (ruleOf houseRules (i : Int)).2 houseGroups = 0 := by simpa using List.all_eq_true.1 house_check_all i (List.mem_range.2 hi)
  have h : i = 0 ∨ i = 1 ∨ i = 2 ∨ i = 3 ∨ i = 4 ∨ i = 5 ∨ i = 6 ∨ i = 7 ∨ i = 8 := by omega
  rcases h with rfl | rfl | rfl | rfl | rfl | rfl | rfl | rfl | rfl
  · exact sig_one hc (ty := [1, 2, 3, 4, 5, 7]) (nn := false) (by kernel_rfl) (by kernel_rfl) (by kernel_rfl)
  · exact sig_one hc (ty := [0]) (nn := true) (by kernel_rfl) (by kernel_rfl) (by kernel_rfl)
  · exact sig_one hc (ty := [0]) (nn := true) (by kernel_rfl) (by kernel_rfl) (by kernel_rfl)
  · exact sig_one hc (ty := [1, 2, 3, 4, 5, 7]) (nn := false) (by kernel_rfl) (by kernel_rfl) (by kernel_rfl)
  · exact sig_one hc (ty := [0]) (nn := true) (by kernel_rfl) (by kernel_rfl) (by kernel_rfl)
  · exact sig_one hc (ty := [6]) (nn := false) (by kernel_rfl) (by kernel_rfl) (by kernel_rfl)
  · exact sig_one hc (ty := [1, 2, 3, 4, 5, 7]) (nn := false) (by kernel_rfl) (by kernel_rfl) (by kernel_rfl)
  · exact sig_none hc (by kernel_rfl) (by kernel_rfl) (by kernel_rfl) (by kernel_rfl)
  · exact sig_none hc (by kernel_rfl) (by kernel_rfl) (by kernel_rfl) (by kernel_rfl)
theorem house_sig (t : Int) : Sig houseGroups (ruleOf houseRules t).2 := by
  obtain ⟨i, hi, h⟩ := house_rule t
  rw [h]
  exact sig_nat i hi
end Go.Proofs.YtfapglhdakhbeaaGreatDoor
namespace Go.Proofs.YtfapglhdakhbeaaGreatDoor
open Go.RowKit
set_option linter.unusedVariables false
set_option linter.unusedSimpArgs false

/-- flat.Check's depth. -/
def fcRun : Nat → List Tok → Option Nat
  | n, [] => some n
  | n, x :: r => if rightB x = false then none else if x.k = 2 then (if n = 0 then none else fcRun (n - 1) r) else if x.k = 1 then (if n = 32 then none else fcRun (n + 1) r) else fcRun n r
theorem fcGo_run : ∀ (l : List Tok) (k n : Nat), (fcGo k n l).2 = 0 ↔ fcRun n l = some 0 := by
  intro l
  induction l with
  | nil =>
    intro k n
    unfold fcGo fcRun
    by_cases h : n = 0 <;> simp [h]
  | cons x r ih =>
    intro k n
    unfold fcGo fcRun
    by_cases hr : rightB x = false
    · simp [hr]
    · rw [if_neg hr]
      by_cases h2 : x.k = 2
      · rw [if_pos h2]
        by_cases h0 : n = 0
        · simp [h0, h2]
        · rw [if_neg h0, if_neg (by simp [h0, hr]), if_neg (by omega), if_pos h2]
          exact ih _ _
      · rw [if_neg (by simp [h2, hr])]
        simp only [if_neg h2]
        by_cases h1 : x.k = 1
        · simp only [if_pos h1]
          by_cases h3 : n = 32
          · simp [h3]
          · simp only [if_neg h3]
            exact ih _ _
        · simp only [if_neg h1]
          exact ih _ _
theorem fcRun_app : ∀ (a b : List Tok) (n : Nat), fcRun n (a ++ b) = (fcRun n a).bind (fun m => fcRun m b) := by
  intro a b
  induction a with
  | nil => intro n; rfl
  | cons x r ih =>
    intro n
    rw [List.cons_append, fcRun, fcRun]
    split
    · rfl
    · split
      · split
        · rfl
        · exact ih _
      · split
        · split
          · rfl
          · exact ih _
        · exact ih _

section
variable (rs : List (Spec × Ex)) (gs : List Grp)
/-- The levels behind some tokens. -/
def ckRun : Lev → List Lev → List Tok → Option (Lev × List Lev)
  | top, below, [] => some (top, below)
  | top, below, x :: r =>
    if x.k = 2 then (match below with | [] => none | p :: q => if regAccepts top.1.2 gs top.2 = true then ckRun p q r else none)
    else if stepOk rs gs top x = true then
      (if x.k = 1 then ckRun (ruleOf rs x.t, []) ((top.1, top.2 ++ [x.t]) :: below) r else ckRun (top.1, top.2 ++ [x.t]) below r)
    else none
end
section
variable {rs : List (Spec × Ex)} {gs : List Grp}
theorem ckRun_cons (top : Lev) (below : List Lev) (x : Tok) (r : List Tok) : ckRun rs gs top below (x :: r) =
    if x.k = 2 then (match below with | [] => none | p :: q => if regAccepts top.1.2 gs top.2 = true then ckRun rs gs p q r else none)
    else if stepOk rs gs top x = true then
      (if x.k = 1 then ckRun rs gs (ruleOf rs x.t, []) ((top.1, top.2 ++ [x.t]) :: below) r else ckRun rs gs (top.1, top.2 ++ [x.t]) below r)
    else none := by
  rw [ckRun.eq_def]
theorem ckRun_app : ∀ (a b : List Tok) (top : Lev) (below : List Lev), ckRun rs gs top below (a ++ b) = (ckRun rs gs top below a).bind (fun s => ckRun rs gs s.1 s.2 b) := by
  intro a b
  induction a with
  | nil => intro top below; rfl
  | cons x r ih =>
    intro top below
    rw [List.cons_append, ckRun_cons, ckRun_cons]
    split
    · cases below with
      | nil => rfl
      | cons p q =>
        simp only
        split
        · exact ih _ _
        · rfl
    · split
      · split
        · exact ih _ _
        · exact ih _ _
      · rfl
/-- The depth that flat.Check has is that of the levels. -/
theorem run_depth : ∀ (l : List Tok) (top t : Lev) (below b : List Lev), ckRun rs gs top below l = some (t, b) → ∀ m, fcRun below.length l = some m → m = b.length := by
  intro l
  induction l with
  | nil =>
    intro top t below b h m hm
    simp only [ckRun, Option.some.injEq, Prod.mk.injEq] at h
    simp only [fcRun, Option.some.injEq] at hm
    rw [← h.2, hm]
  | cons x r ih =>
    intro top t below b h m hm
    rw [ckRun_cons] at h
    unfold fcRun at hm
    split at hm
    · cases hm
    · by_cases h2 : x.k = 2
      · rw [if_pos h2] at h hm
        cases below with
        | nil => cases h
        | cons p q =>
          simp only at h
          rw [if_neg (by simp)] at hm
          split at h
          · exact ih _ _ _ _ h m (by simpa using hm)
          · cases h
      · rw [if_neg h2] at h hm
        split at h
        · by_cases h1 : x.k = 1
          · rw [if_pos h1] at h hm
            split at hm
            · cases hm
            · exact ih _ _ _ _ h m (by simpa using hm)
          · rw [if_neg h1] at h hm
            exact ih _ _ _ _ h m hm
        · cases h
/-- What Check says, as a run. -/
theorem ckGo_run : ∀ (l : List Tok) (k : Nat) (top : Lev) (below : List Lev), fcRun below.length l = some 0 → ((ckGo rs gs k top below l).2 = 0 ↔ ∃ t, ckRun rs gs top below l = some (t, []) ∧ regAccepts t.1.2 gs t.2 = true) := by
  intro l
  induction l with
  | nil =>
    intro k top below hf
    simp only [fcRun, Option.some.injEq] at hf
    obtain rfl : below = [] := List.eq_nil_of_length_eq_zero hf
    rw [ck_end]
    constructor
    · intro h
      refine ⟨top, rfl, ?_⟩
      by_cases ha : regAccepts top.1.2 gs top.2 = true
      · exact ha
      · simp only [if_neg ha] at h
        omega
    · rintro ⟨t, h, ha⟩
      simp only [ckRun, Option.some.injEq, Prod.mk.injEq] at h
      obtain ⟨rfl, _⟩ := h
      simp only [if_pos ha]
  | cons x r ih =>
    intro k top below hf
    unfold fcRun at hf
    split at hf
    · cases hf
    · by_cases h2 : x.k = 2
      · rw [if_pos h2] at hf
        cases below with
        | nil => simp at hf
        | cons p q =>
          rw [if_neg (by simp)] at hf
          cases ha : regAccepts top.1.2 gs top.2
          · rw [ck_noclose h2 ha, ckRun_cons, if_pos h2]
            simp [ha]
          · rw [ck_close h2 ha, ckRun_cons, if_pos h2, ih (k + 1) p q (by simpa using hf)]
            simp only [ha, if_true]
      · rw [if_neg h2] at hf
        cases hs : stepOk rs gs top x
        · rw [ck_bad h2 hs, ckRun_cons, if_neg h2]
          simp [hs]
        · by_cases h1 : x.k = 1
          · rw [if_pos h1] at hf
            split at hf
            · cases hf
            · rw [ck_open h1 hs, ckRun_cons, if_neg h2, if_pos hs, if_pos h1]
              exact ih _ _ _ (by simpa using hf)
          · rw [if_neg h1] at hf
            rw [ck_leaf h2 h1 hs, ckRun_cons, if_neg h2, if_pos hs, if_neg h1]
            exact ih _ _ _ hf
end
abbrev hRun (top : Lev) (below : List Lev) (l : List Tok) : Option (Lev × List Lev) := ckRun houseRules houseGroups top below l
abbrev hAcc (t : Lev) : Bool := regAccepts t.1.2 houseGroups t.2
abbrev hTop : Lev := (ruleOf houseRules 0, [])
/-- What it is for a document to be the house's. -/
theorem house_iff (l : List Tok) : (houseCheck l).2 = 0 ↔ l.length ≤ 2048 ∧ fcRun 0 l = some 0 ∧ ∃ t, hRun hTop [] l = some (t, []) ∧ hAcc t = true := by
  unfold houseCheck schemaCheck
  by_cases hl : l.length > 2048
  · have h1 : (flatCheck l).2 ≠ 0 := by unfold flatCheck; rw [if_pos hl]; decide
    rw [if_neg h1]
    constructor
    · exact fun h => absurd h h1
    · rintro ⟨h, _⟩
      omega
  · have h1 : flatCheck l = fcGo 0 0 l := by unfold flatCheck; rw [if_neg hl]
    by_cases hf : (flatCheck l).2 = 0
    · rw [if_pos hf]
      rw [h1, fcGo_run] at hf
      rw [ckGo_run l 0 hTop [] hf]
      constructor
      · exact fun h => ⟨by omega, hf, h⟩
      · exact fun h => h.2.2
    · rw [if_neg hf]
      constructor
      · exact fun h => absurd h hf
      · rintro ⟨_, h, _⟩
        rw [h1, fcGo_run] at hf
        exact absurd h hf

/-! ### Levels of the house -/
abbrev tyR (r : Spec × Ex) : List Int := tyOf houseGroups r.2
/-- A level of the house whose word may be so far. -/
def Wd (a : Lev) : Prop := (∃ t, a.1 = ruleOf houseRules t) ∧ ∀ t ∈ a.2, t ∈ tyR a.1
theorem Wd.sig {a : Lev} (h : Wd a) : Sig houseGroups a.1.2 := by
  obtain ⟨⟨t, ht⟩, _⟩ := h
  rw [ht]
  exact house_sig t
theorem wd_new (t : Int) : Wd (ruleOf houseRules t, []) := ⟨⟨t, rfl⟩, fun t ht => by cases ht⟩
theorem stepOk_iff {a : Lev} (h : Wd a) (x : Tok) : stepOk houseRules houseGroups a x = true ↔ mayT houseRules a.1.1 x = true ∧ x.t ∈ tyR a.1 := by
  unfold stepOk
  rw [Bool.and_eq_true, decide_eq_true_eq]
  have := h.sig.live (a.2 ++ [x.t])
  rw [List.length_append, List.length_singleton] at this
  rw [this]
  constructor
  · exact fun ⟨h1, h2⟩ => ⟨h1, h2 x.t (by simp)⟩
  · exact fun ⟨h1, h2⟩ => ⟨h1, fun t ht => by
      rcases List.mem_append.1 ht with ht | ht
      · exact h.2 t ht
      · rw [List.mem_singleton.1 ht]; exact h2⟩
theorem Wd.snoc {a : Lev} (h : Wd a) {t : Int} (ht : t ∈ tyR a.1) : Wd (a.1, a.2 ++ [t]) := ⟨h.1, fun u hu => by
  rcases List.mem_append.1 hu with hu | hu
  · exact h.2 u hu
  · rw [List.mem_singleton.1 hu]; exact ht⟩
theorem acc_snoc {a : Lev} (h : Wd a) (hn : a.2 ≠ []) : hAcc a = true := (h.sig.acc a.2).2 ⟨fun e => absurd e hn, h.2⟩
/-- Two stacks of the same rules, alike but for the words. -/
inductive Rl : Lev → List Lev → Lev → List Lev → Prop
  | bot {a b : Lev} : a.1 = b.1 → Wd a → Wd b → Rl a [] b []
  | up {a b p p' : Lev} {q q' : List Lev} : a.1 = b.1 → Wd a → Wd b → hAcc a = hAcc b → Rl p q p' q' → Rl a (p :: q) b (p' :: q')
theorem Rl.snoc {a b : Lev} {q q' : List Lev} (h : Rl a q b q') {t : Int} (ht : t ∈ tyR a.1) : Rl (a.1, a.2 ++ [t]) q (b.1, b.2 ++ [t]) q' := by
  cases h with
  | bot h1 h2 h3 => exact .bot h1 (h2.snoc ht) (h3.snoc (by rw [← h1]; exact ht))
  | up h1 h2 h3 _ h5 => exact .up h1 (h2.snoc ht) (h3.snoc (by rw [← h1]; exact ht)) (by rw [acc_snoc (h2.snoc ht) (by simp), acc_snoc (h3.snoc (by rw [← h1]; exact ht)) (by simp)]) h5
theorem Rl.wd {a b : Lev} {q q' : List Lev} (h : Rl a q b q') : a.1 = b.1 ∧ Wd a ∧ Wd b := by
  cases h with
  | bot h1 h2 h3 => exact ⟨h1, h2, h3⟩
  | up h1 h2 h3 _ _ => exact ⟨h1, h2, h3⟩
/-- Stacks that are alike run alike. -/
theorem run_rl : ∀ (l : List Tok) {a b t : Lev} {q q' z : List Lev}, Rl a q b q' → hRun a q l = some (t, z) → ∃ t' z', hRun b q' l = some (t', z') ∧ Rl t z t' z' := by
  intro l
  induction l with
  | nil =>
    intro a b t q q' z h hr
    simp only [hRun, ckRun, Option.some.injEq, Prod.mk.injEq] at hr
    obtain ⟨rfl, rfl⟩ := hr
    exact ⟨b, q', rfl, h⟩
  | cons x r ih =>
    intro a b t q q' z h hr
    unfold hRun at hr ⊢
    rw [ckRun_cons] at hr ⊢
    obtain ⟨h1, h2, h3⟩ := h.wd
    by_cases hk : x.k = 2
    · rw [if_pos hk] at hr ⊢
      cases h with
      | bot => cases hr
      | up _ _ _ h4 h5 =>
        simp only at hr ⊢
        split at hr
        · rename_i ha
          have hb : regAccepts b.1.2 houseGroups b.2 = true := h4.symm.trans ha
          rw [if_pos hb]
          exact ih h5 hr
        · cases hr
    · rw [if_neg hk] at hr ⊢
      split at hr
      · rename_i hs
        have hs2 := (stepOk_iff h2 x).1 hs
        rw [if_pos ((stepOk_iff h3 x).2 (by rw [← h1]; exact hs2))]
        split at hr
        · rename_i hk1
          rw [if_pos hk1]
          exact ih (.up rfl (wd_new _) (wd_new _) rfl (h.snoc hs2.2)) hr
        · rename_i hk1
          rw [if_neg hk1]
          exact ih (h.snoc hs2.2) hr
      · cases hr
end Go.Proofs.YtfapglhdakhbeaaGreatDoor
