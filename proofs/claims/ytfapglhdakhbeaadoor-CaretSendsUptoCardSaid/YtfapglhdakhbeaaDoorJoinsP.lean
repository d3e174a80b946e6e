/- Two documents one behind the other; the blocks of one (plain). -/
import Derived.Test.YtfapglhdakhbeaaDoorRunC
namespace Go.Proofs.YtfapglhdakhbeaaDoor
open Go.RowKit
set_option linter.unusedVariables false
set_option linter.unusedSimpArgs false

def botOf : Lev → List Lev → Lev
  | t, [] => t
  | _, p :: q => botOf p q
theorem run_bot : ∀ (l : List Tok) (top t : Lev) (below z : List Lev), hRun top below l = some (t, z) → (botOf t z).1 = (botOf top below).1 ∧ ∃ v, (botOf t z).2 = (botOf top below).2 ++ v := by
  intro l
  induction l with
  | nil =>
    intro top t below z h
    simp only [hRun, ckRun, Option.some.injEq, Prod.mk.injEq] at h
    obtain ⟨rfl, rfl⟩ := h
    exact ⟨rfl, [], by simp⟩
  | cons x r ih =>
    intro top t below z h
    unfold hRun at h
    rw [ckRun_cons] at h
    have hsn : ∀ u : Int, (botOf (top.1, top.2 ++ [u]) below).1 = (botOf top below).1 ∧ ∃ v, (botOf (top.1, top.2 ++ [u]) below).2 = (botOf top below).2 ++ v := by
      intro u
      cases below with
      | nil => exact ⟨rfl, [u], rfl⟩
      | cons p q => exact ⟨rfl, [], by simp [botOf]⟩
    split at h
    · cases below with
      | nil => cases h
      | cons p q =>
        simp only at h
        split at h
        · have h9 := ih _ _ _ _ h
          exact h9
        · cases h
    · split at h
      · have key : ∃ top2 below2, hRun top2 below2 r = some (t, z) ∧ botOf top2 below2 = botOf (top.1, top.2 ++ [x.t]) below := by
          split at h
          · exact ⟨_, _, h, rfl⟩
          · exact ⟨_, _, h, rfl⟩
        obtain ⟨top2, below2, h2, hb⟩ := key
        obtain ⟨e1, v1, e2⟩ := ih _ _ _ _ h2
        obtain ⟨e3, v2, e4⟩ := hsn x.t
        rw [hb] at e1 e2
        exact ⟨e1.trans e3, v2 ++ v1, by rw [e2, e4, List.append_assoc]⟩
      · cases h
theorem hTop_wd : Wd hTop := wd_new 0
theorem run_wd {l : List Tok} {t : Lev} (h : hRun hTop [] l = some (t, [])) : t.1 = ruleOf houseRules 0 ∧ Wd t := by
  obtain ⟨t', z', h1, h2⟩ := run_rl l (.bot rfl hTop_wd hTop_wd) h
  exact ⟨(run_bot l _ _ _ _ h).1, h2.wd.2.1⟩
theorem whole_nn : nnOf houseGroups (ruleOf houseRules 0).2 = false := by kernel_rfl
theorem acc_ne {t : Lev} (h : t.1 = ruleOf houseRules 0) (ha : hAcc t = true) : t.2 ≠ [] := by
  intro e
  have := ((house_sig 0).acc t.2).1 (by rw [← h]; exact ha)
  rw [whole_nn] at this
  exact absurd (this.1 e) (by decide)
theorem joins_ok {a b : List Tok} (ha : (houseCheck a).2 = 0) (hb : (houseCheck b).2 = 0) (hl : a.length + b.length ≤ 2048) : (houseCheck (a ++ b)).2 = 0 := by
  rw [house_iff] at ha hb ⊢
  obtain ⟨_, fa, t, ra, aa⟩ := ha
  obtain ⟨_, fb, u, rb, ab⟩ := hb
  obtain ⟨ht, hw⟩ := run_wd ra
  obtain ⟨u', z', ru, hru⟩ := run_rl b (Rl.bot ht.symm hTop_wd hw) rb
  cases hru with
  | bot h1 h2 h3 =>
    refine ⟨by rw [List.length_append]; exact hl, by rw [fcRun_app, fa]; exact fb, u', ?_, acc_snoc h3 ?_⟩
    · show ckRun _ _ _ _ _ = _
      rw [ckRun_app, show ckRun houseRules houseGroups hTop [] a = some (t, []) from ra]
      exact ru
    · obtain ⟨_, v, hv⟩ := run_bot b _ _ _ _ ru
      have hv2 : u'.2 = t.2 ++ v := hv
      rw [hv2]
      intro e
      exact acc_ne ht aa (List.append_eq_nil_iff.1 e).1
theorem kids_spec : ∀ (l : List Tok) (k : Nat) (top t : Lev) (below : List Lev), hRun top below l = some (t, []) → ∀ p ∈ kdGo (-1) k below.length l, ∃ (j : Nat) (x : Tok) (w : Lev), p = ((k + j : Nat) : Int) ∧ l[j]? = some x ∧ x.k ≠ 2 ∧ hRun top below (l.take j) = some (w, []) := by
  intro l
  induction l with
  | nil =>
    intro k top t below h p hp
    cases hp
  | cons x r ih =>
    intro k top t below h p hp
    unfold hRun at h
    rw [ckRun_cons] at h
    rw [kdGo] at hp
    have wrap : ∀ (top2 : Lev) (below2 : List Lev), (∀ s, hRun top below (x :: s) = hRun top2 below2 s) → hRun top2 below2 r = some (t, []) → p ∈ kdGo (-1) (k + 1) below2.length r → ∃ (j : Nat) (y : Tok) (w : Lev), p = ((k + j : Nat) : Int) ∧ (x :: r)[j]? = some y ∧ y.k ≠ 2 ∧ hRun top below ((x :: r).take j) = some (w, []) := by
      intro top2 below2 hs h2 hp2
      obtain ⟨j, y, w, h3, h4, h5, h6⟩ := ih (k + 1) top2 t below2 h2 p hp2
      exact ⟨j + 1, y, w, by rw [h3]; congr 1; omega, by simpa using h4, h5, by rw [List.take_succ_cons, hs]; exact h6⟩
    by_cases h2 : x.k = 2
    · rw [if_pos h2] at h hp
      cases below with
      | nil => cases h
      | cons q qs =>
        rw [if_neg (by omega)] at hp
        simp only at h
        split at h
        · rename_i ha
          exact wrap q qs (fun s => by unfold hRun; rw [ckRun_cons, if_pos h2]; simp only [if_pos ha]) h (by simpa using hp)
        · cases h
    · rw [if_neg h2] at h hp
      split at h
      · rename_i hs
        have hp0 := hp
        clear hp
        rcases List.mem_append.1 hp0 with hp | hp
        · clear hp0
          split at hp
          · rename_i hd
            have hb : below = [] := List.eq_nil_of_length_eq_zero hd.1
            subst hb
            exact ⟨0, x, top, by simpa using hp, rfl, h2, rfl⟩
          · cases hp
        · by_cases h1 : x.k = 1
          · rw [if_pos h1] at h hp
            exact wrap _ _ (fun s => by unfold hRun; rw [ckRun_cons, if_neg h2, if_pos hs, if_pos h1]) h (by simpa using hp)
          · rw [if_neg h1] at h hp
            exact wrap _ _ (fun s => by unfold hRun; rw [ckRun_cons, if_neg h2, if_pos hs, if_neg h1]) h hp
      · cases h
theorem part_spec : ∀ (l : List Tok) (k : Nat) (top t : Lev) (below : List Lev), below ≠ [] → hRun top below l = some (t, []) → ∃ k', ptGo k (below.length : Int) l = some (k + k') ∧ k' < l.length ∧ ∃ w, hRun top below (l.take (k' + 1)) = some (w, []) := by
  intro l
  induction l with
  | nil =>
    intro k top t below hb h
    simp only [hRun, ckRun, Option.some.injEq, Prod.mk.injEq] at h
    exact absurd h.2 hb
  | cons x r ih =>
    intro k top t below hb h
    unfold hRun at h
    rw [ckRun_cons] at h
    rw [ptGo]
    have wrap : ∀ (top2 : Lev) (below2 : List Lev), below2 ≠ [] → (∀ s, hRun top below (x :: s) = hRun top2 below2 s) → hRun top2 below2 r = some (t, []) → ∃ k', ptGo (k + 1) (below2.length : Int) r = some (k + k') ∧ k' < (x :: r).length ∧ ∃ w, hRun top below ((x :: r).take (k' + 1)) = some (w, []) := by
      intro top2 below2 hb2 hs h2
      obtain ⟨k', h3, h4, w, h5⟩ := ih (k + 1) top2 t below2 hb2 h2
      exact ⟨k' + 1, by rw [h3]; congr 1; omega, by simp; omega, w, by rw [List.take_succ_cons, hs]; exact h5⟩
    by_cases h2 : x.k = 2
    · rw [if_pos h2] at h
      rw [if_neg (by omega), if_pos h2]
      cases below with
      | nil => cases h
      | cons q qs =>
        simp only at h
        split at h
        · rename_i ha
          by_cases hq : qs = []
          · subst hq
            rw [if_pos (by simp)]
            exact ⟨0, rfl, by simp, q, by unfold hRun; rw [List.take_succ_cons, ckRun_cons, if_pos h2]; simp only [if_pos ha]; rfl⟩
          · rw [if_neg (by simp; intro e; exact hq e), show (((q :: qs).length : Nat) : Int) - 1 = (qs.length : Int) by simp]
            exact wrap q qs hq (fun s => by unfold hRun; rw [ckRun_cons, if_pos h2]; simp only [if_pos ha]) h
        · cases h
    · rw [if_neg h2] at h
      split at h
      · rename_i hs
        by_cases h1 : x.k = 1
        · rw [if_pos h1] at h
          rw [if_pos h1, show (below.length : Int) + 1 = ((((top.1, top.2 ++ [x.t]) : Lev) :: below).length : Int) by simp]
          exact wrap _ _ (by simp) (fun s => by unfold hRun; rw [ckRun_cons, if_neg h2, if_pos hs, if_pos h1]) h
        · rw [if_neg h1] at h
          rw [if_neg h1, if_neg h2]
          exact wrap _ _ hb (fun s => by unfold hRun; rw [ckRun_cons, if_neg h2, if_pos hs, if_neg h1]) h
      · cases h
/-- A piece of a document that begins and ends at the whole is one. -/
theorem piece_ok {a pre seg post : List Tok} {x : Tok} {s : List Tok} {w w2 : Lev} (ha : (houseCheck a).2 = 0) (he : a = pre ++ (seg ++ post)) (hseg : seg = x :: s) (hx : x.k ≠ 2) (h1 : hRun hTop [] pre = some (w, [])) (h2 : hRun w [] seg = some (w2, [])) : (houseCheck seg).2 = 0 := by
  rw [house_iff] at ha ⊢
  obtain ⟨hl, fa, t, ra, aa⟩ := ha
  obtain ⟨ht, hw⟩ := run_wd h1
  obtain ⟨u, z, ru, hru⟩ := run_rl seg (Rl.bot ht hw hTop_wd) h2
  rw [he, fcRun_app] at fa
  obtain ⟨m, fm, fa2⟩ := Option.bind_eq_some_iff.1 fa
  obtain rfl : m = 0 := run_depth pre _ _ _ _ h1 m fm
  rw [fcRun_app] at fa2
  obtain ⟨m2, fm2, _⟩ := Option.bind_eq_some_iff.1 fa2
  obtain rfl : m2 = 0 := run_depth seg _ _ _ _ h2 m2 fm2
  cases hru with
  | bot e1 e2 e3 =>
    refine ⟨by rw [he] at hl; simp at hl; omega, fm2, u, ru, acc_snoc e3 ?_⟩
    rw [hseg] at ru
    unfold hRun at ru
    rw [ckRun_cons, if_neg hx] at ru
    split at ru
    · have key : ∃ top2 below2, hRun top2 below2 s = some (u, []) ∧ botOf top2 below2 = (hTop.1, hTop.2 ++ [x.t]) := by
        split at ru
        · exact ⟨_, _, ru, rfl⟩
        · exact ⟨_, _, ru, rfl⟩
      obtain ⟨top2, below2, h3, hb⟩ := key
      obtain ⟨_, v, hv⟩ := run_bot s _ _ _ _ h3
      rw [hb] at hv
      have hv2 : u.2 = [x.t] ++ v := hv
      rw [hv2]
      simp
    · cases ru
theorem kid_ok {a : List Tok} (ha : (houseCheck a).2 = 0) : ∀ p ∈ kidsL a (-1), ∃ (i : Nat) (x : Tok) (e : Nat), p = (i : Int) ∧ a[i]? = some x ∧ x.k ≠ 2 ∧ (x.k = 1 → partL a i = (e : Int)) ∧ (x.k ≠ 1 → e = i) ∧ i ≤ e ∧ e < a.length ∧ (houseCheck ((a.drop i).take (e + 1 - i))).2 = 0 := by
  intro p hp
  have ha0 := ha
  rw [house_iff] at ha
  obtain ⟨hl, fa, t, ra, aa⟩ := ha
  obtain ⟨i, x, w, rfl, hx, hx2, hw⟩ := kids_spec a 0 hTop t [] ra p hp
  have hil : i < a.length := (List.getElem?_eq_some_iff.1 hx).1
  have hsplit : a = a.take i ++ (x :: a.drop (i + 1)) := by rw [← drop_cons hx, List.take_append_drop]
  have hrest : hRun w [] (x :: a.drop (i + 1)) = some (t, []) := by
    have h := ra
    rw [hsplit] at h
    unfold hRun at h
    rw [ckRun_app, show ckRun houseRules houseGroups hTop [] (a.take i) = some (w, []) from hw] at h
    exact h
  have hrest0 := hrest
  unfold hRun at hrest
  rw [ckRun_cons, if_neg hx2] at hrest
  split at hrest
  · rename_i hs
    by_cases h1 : x.k = 1
    · rw [if_pos h1] at hrest
      obtain ⟨k', hpt, hk', w2, hr2⟩ := part_spec (a.drop (i + 1)) 1 _ t _ (by simp) hrest
      have hkl : k' < a.length - (i + 1) := by rw [List.length_drop] at hk'; exact hk'
      refine ⟨i, x, i + (1 + k'), by simp, hx, hx2, fun _ => ?_, fun h => absurd h1 h, by omega, by omega, ?_⟩
      · unfold partL
        rw [drop_cons hx, ptGo, if_pos h1, show (0 : Int) + 1 = ((([(w.1, w.2 ++ [x.t])] : List Lev)).length : Int) by simp, hpt]
        simp
      · refine piece_ok ha0 (pre := a.take i) (post := (a.drop (i + 1)).drop (k' + 1)) (x := x) (s := (a.drop (i + 1)).take (k' + 1)) (w := w) (w2 := w2) ?_ ?_ hx2 hw ?_
        · rw [drop_cons hx, show i + (1 + k') + 1 - i = (k' + 1) + 1 by omega, List.take_succ_cons, List.cons_append, List.take_append_drop]
          exact hsplit
        · rw [drop_cons hx, show i + (1 + k') + 1 - i = (k' + 1) + 1 by omega, List.take_succ_cons]
        · rw [drop_cons hx, show i + (1 + k') + 1 - i = (k' + 1) + 1 by omega, List.take_succ_cons]
          unfold hRun
          rw [ckRun_cons, if_neg hx2, if_pos hs, if_pos h1]
          exact hr2
    · rw [if_neg h1] at hrest
      refine ⟨i, x, i, by simp, hx, hx2, fun h => absurd h h1, fun _ => rfl, Nat.le_refl _, hil, ?_⟩
      have e1 : (a.drop i).take (i + 1 - i) = [x] := by rw [drop_cons hx, show i + 1 - i = 0 + 1 by omega, List.take_succ_cons, List.take_zero]
      rw [e1]
      exact piece_ok ha0 (pre := a.take i) (post := a.drop (i + 1)) (x := x) (s := []) (w := w) (w2 := (w.1, w.2 ++ [x.t])) hsplit rfl hx2 hw (by unfold hRun; rw [ckRun_cons, if_neg hx2, if_pos hs, if_neg h1]; rfl)
  · cases hrest
theorem kids_ne {a : List Tok} (ha : (houseCheck a).2 = 0) : kidsL a (-1) ≠ [] := by
  rw [house_iff] at ha
  obtain ⟨hl, fa, t, ra, aa⟩ := ha
  cases a with
  | nil =>
    have ht : hTop = t := by simpa [hRun, ckRun] using ra
    exact absurd rfl (acc_ne (t := hTop) rfl (by rw [ht]; exact aa))
  | cons x r =>
    unfold hRun at ra
    rw [ckRun_cons] at ra
    have h2 : x.k ≠ 2 := by
      intro e
      rw [if_pos e] at ra
      cases ra
    unfold fcRun at fa
    split at fa
    · cases fa
    · rename_i hr
      have hR : RightP x := by simpa [rightB] using hr
      unfold kidsL
      rw [show ((-1 : Int) + 1).toNat = 0 from rfl, List.drop_zero, kdGo, if_neg h2, if_pos ⟨rfl, by rcases hR with h | h | h <;> omega, by rcases hR with h | h | h <;> omega⟩]
      simp
end Go.Proofs.YtfapglhdakhbeaaDoor
