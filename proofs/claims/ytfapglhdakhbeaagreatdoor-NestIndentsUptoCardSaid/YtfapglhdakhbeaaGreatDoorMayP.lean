/- Two documents one behind the other; the blocks of one (plain). Where text may stand in a document of the house's (plain). -/
import Derived.Test.YtfapglhdakhbeaaGreatDoorRunC
import Derived.Test.YtfapglhdakhbeaaGreatDoorStack
namespace Go.Proofs.YtfapglhdakhbeaaGreatDoor
open Go.RowKit
set_option linter.unusedVariables false
set_option linter.unusedSimpArgs false

def botOf : Lev → List Lev → Lev
  | t, [] => t
  | _, p :: q => botOf p q
theorem run_bot : ∀ (l : List Tok) (top t : Lev) (below z : List Lev), hRun top below l = some (t, z) → (botOf t z).1 = (botOf top below).1 ∧ ∃ v, (botOf t z).2 = (botOf top below).2 ++ v := by
  intro l
  induction l with
  | nil =>
    intro top t below z h
    simp only [hRun, ckRun, Option.some.injEq, Prod.mk.injEq] at h
    obtain ⟨rfl, rfl⟩ := h
    exact ⟨rfl, [], by simp⟩
  | cons x r ih =>
    intro top t below z h
    unfold hRun at h
    rw [ckRun_cons] at h
    have hsn : ∀ u : Int, (botOf (top.1, top.2 ++ [u]) below).1 = (botOf top below).1 ∧ ∃ v, (botOf (top.1, top.2 ++ [u]) below).2 = (botOf top below).2 ++ v := by
      intro u
      cases below with
      | nil => exact ⟨rfl, [u], rfl⟩
      | cons p q => exact ⟨rfl, [], by simp [botOf]⟩
    split at h
    · cases below with
      | nil => cases h
      | cons p q =>
        simp only at h
        split at h
        · have h9 := ih _ _ _ _ h
          exact h9
        · cases h
    · split at h
      · have key : ∃ top2 below2, hRun top2 below2 r = some (t, z) ∧ botOf top2 below2 = botOf (top.1, top.2 ++ [x.t]) below := by
          split at h
          · exact ⟨_, _, h, rfl⟩
          · exact ⟨_, _, h, rfl⟩
        obtain ⟨top2, below2, h2, hb⟩ := key
        obtain ⟨e1, v1, e2⟩ := ih _ _ _ _ h2
        obtain ⟨e3, v2, e4⟩ := hsn x.t
        rw [hb] at e1 e2
        exact ⟨e1.trans e3, v2 ++ v1, by rw [e2, e4, List.append_assoc]⟩
      · cases h
theorem hTop_wd : Wd hTop := wd_new 0
theorem run_wd {l : List Tok} {t : Lev} (h : hRun hTop [] l = some (t, [])) : t.1 = ruleOf houseRules 0 ∧ Wd t := by
  obtain ⟨t', z', h1, h2⟩ := run_rl l (.bot rfl hTop_wd hTop_wd) h
  exact ⟨(run_bot l _ _ _ _ h).1, h2.wd.2.1⟩
theorem whole_nn : nnOf houseGroups (ruleOf houseRules 0).2 = false := by kernel_rfl
theorem acc_ne {t : Lev} (h : t.1 = ruleOf houseRules 0) (ha : hAcc t = true) : t.2 ≠ [] := by
  intro e
  have := ((house_sig 0).acc t.2).1 (by rw [← h]; exact ha)
  rw [whole_nn] at this
  exact absurd (this.1 e) (by decide)
theorem joins_ok {a b : List Tok} (ha : (houseCheck a).2 = 0) (hb : (houseCheck b).2 = 0) (hl : a.length + b.length ≤ 2048) : (houseCheck (a ++ b)).2 = 0 := by
  rw [house_iff] at ha hb ⊢
  obtain ⟨_, fa, t, ra, aa⟩ := ha
  obtain ⟨_, fb, u, rb, ab⟩ := hb
  obtain ⟨ht, hw⟩ := run_wd ra
  obtain ⟨u', z', ru, hru⟩ := run_rl b (Rl.bot ht.symm hTop_wd hw) rb
  cases hru with
  | bot h1 h2 h3 =>
    refine ⟨by rw [List.length_append]; exact hl, by rw [fcRun_app, fa]; exact fb, u', ?_, acc_snoc h3 ?_⟩
    · show ckRun _ _ _ _ _ = _
      rw [ckRun_app, show ckRun houseRules houseGroups hTop [] a = some (t, []) from ra]
      exact ru
    · obtain ⟨_, v, hv⟩ := run_bot b _ _ _ _ ru
      have hv2 : u'.2 = t.2 ++ v := hv
      rw [hv2]
      intro e
      exact acc_ne ht aa (List.append_eq_nil_iff.1 e).1
theorem kids_spec : ∀ (l : List Tok) (k : Nat) (top t : Lev) (below : List Lev), hRun top below l = some (t, []) → ∀ p ∈ kdGo (-1) k below.length l, ∃ (j : Nat) (x : Tok) (w : Lev), p = ((k + j : Nat) : Int) ∧ l[j]? = some x ∧ x.k ≠ 2 ∧ hRun top below (l.take j) = some (w, []) := by
  intro l
  induction l with
  | nil =>
    intro k top t below h p hp
    cases hp
  | cons x r ih =>
    intro k top t below h p hp
    unfold hRun at h
    rw [ckRun_cons] at h
    rw [kdGo] at hp
    have wrap : ∀ (top2 : Lev) (below2 : List Lev), (∀ s, hRun top below (x :: s) = hRun top2 below2 s) → hRun top2 below2 r = some (t, []) → p ∈ kdGo (-1) (k + 1) below2.length r → ∃ (j : Nat) (y : Tok) (w : Lev), p = ((k + j : Nat) : Int) ∧ (x :: r)[j]? = some y ∧ y.k ≠ 2 ∧ hRun top below ((x :: r).take j) = some (w, []) := by
      intro top2 below2 hs h2 hp2
      obtain ⟨j, y, w, h3, h4, h5, h6⟩ := ih (k + 1) top2 t below2 h2 p hp2
      exact ⟨j + 1, y, w, by rw [h3]; congr 1; omega, by simpa using h4, h5, by rw [List.take_succ_cons, hs]; exact h6⟩
    by_cases h2 : x.k = 2
    · rw [if_pos h2] at h hp
      cases below with
      | nil => cases h
      | cons q qs =>
        rw [if_neg (by omega)] at hp
        simp only at h
        split at h
        · rename_i ha
          exact wrap q qs (fun s => by unfold hRun; rw [ckRun_cons, if_pos h2]; simp only [if_pos ha]) h (by simpa using hp)
        · cases h
    · rw [if_neg h2] at h hp
      split at h
      · rename_i hs
        have hp0 := hp
        clear hp
        rcases List.mem_append.1 hp0 with hp | hp
        · clear hp0
          split at hp
          · rename_i hd
            have hb : below = [] := List.eq_nil_of_length_eq_zero hd.1
            subst hb
            exact ⟨0, x, top, by simpa using hp, rfl, h2, rfl⟩
          · cases hp
        · by_cases h1 : x.k = 1
          · rw [if_pos h1] at h hp
            exact wrap _ _ (fun s => by unfold hRun; rw [ckRun_cons, if_neg h2, if_pos hs, if_pos h1]) h (by simpa using hp)
          · rw [if_neg h1] at h hp
            exact wrap _ _ (fun s => by unfold hRun; rw [ckRun_cons, if_neg h2, if_pos hs, if_neg h1]) h hp
      · cases h
theorem part_spec : ∀ (l : List Tok) (k : Nat) (top t : Lev) (below : List Lev), below ≠ [] → hRun top below l = some (t, []) → ∃ k', ptGo k (below.length : Int) l = some (k + k') ∧ k' < l.length ∧ ∃ w, hRun top below (l.take (k' + 1)) = some (w, []) := by
  intro l
  induction l with
  | nil =>
    intro k top t below hb h
    simp only [hRun, ckRun, Option.some.injEq, Prod.mk.injEq] at h
    exact absurd h.2 hb
  | cons x r ih =>
    intro k top t below hb h
    unfold hRun at h
    rw [ckRun_cons] at h
    rw [ptGo]
    have wrap : ∀ (top2 : Lev) (below2 : List Lev), below2 ≠ [] → (∀ s, hRun top below (x :: s) = hRun top2 below2 s) → hRun top2 below2 r = some (t, []) → ∃ k', ptGo (k + 1) (below2.length : Int) r = some (k + k') ∧ k' < (x :: r).length ∧ ∃ w, hRun top below ((x :: r).take (k' + 1)) = some (w, []) := by
      intro top2 below2 hb2 hs h2
      obtain ⟨k', h3, h4, w, h5⟩ := ih (k + 1) top2 t below2 hb2 h2
      exact ⟨k' + 1, by rw [h3]; congr 1; omega, by simp; omega, w, by rw [List.take_succ_cons, hs]; exact h5⟩
    by_cases h2 : x.k = 2
    · rw [if_pos h2] at h
      rw [if_neg (by omega), if_pos h2]
      cases below with
      | nil => cases h
      | cons q qs =>
        simp only at h
        split at h
        · rename_i ha
          by_cases hq : qs = []
          · subst hq
            rw [if_pos (by simp)]
            exact ⟨0, rfl, by simp, q, by unfold hRun; rw [List.take_succ_cons, ckRun_cons, if_pos h2]; simp only [if_pos ha]; rfl⟩
          · rw [if_neg (by simp; intro e; exact hq e), show (((q :: qs).length : Nat) : Int) - 1 = (qs.length : Int) by simp]
            exact wrap q qs hq (fun s => by unfold hRun; rw [ckRun_cons, if_pos h2]; simp only [if_pos ha]) h
        · cases h
    · rw [if_neg h2] at h
      split at h
      · rename_i hs
        by_cases h1 : x.k = 1
        · rw [if_pos h1] at h
          rw [if_pos h1, show (below.length : Int) + 1 = ((((top.1, top.2 ++ [x.t]) : Lev) :: below).length : Int) by simp]
          exact wrap _ _ (by simp) (fun s => by unfold hRun; rw [ckRun_cons, if_neg h2, if_pos hs, if_pos h1]) h
        · rw [if_neg h1] at h
          rw [if_neg h1, if_neg h2]
          exact wrap _ _ hb (fun s => by unfold hRun; rw [ckRun_cons, if_neg h2, if_pos hs, if_neg h1]) h
      · cases h
/-- A piece of a document that begins and ends at the whole is one. -/
theorem piece_ok {a pre seg post : List Tok} {x : Tok} {s : List Tok} {w w2 : Lev} (ha : (houseCheck a).2 = 0) (he : a = pre ++ (seg ++ post)) (hseg : seg = x :: s) (hx : x.k ≠ 2) (h1 : hRun hTop [] pre = some (w, [])) (h2 : hRun w [] seg = some (w2, [])) : (houseCheck seg).2 = 0 := by
  rw [house_iff] at ha ⊢
  obtain ⟨hl, fa, t, ra, aa⟩ := ha
  obtain ⟨ht, hw⟩ := run_wd h1
  obtain ⟨u, z, ru, hru⟩ := run_rl seg (Rl.bot ht hw hTop_wd) h2
  rw [he, fcRun_app] at fa
  obtain ⟨m, fm, fa2⟩ := Option.bind_eq_some_iff.1 fa
  obtain rfl : m = 0 := run_depth pre _ _ _ _ h1 m fm
  rw [fcRun_app] at fa2
  obtain ⟨m2, fm2, _⟩ := Option.bind_eq_some_iff.1 fa2
  obtain rfl : m2 = 0 := run_depth seg _ _ _ _ h2 m2 fm2
  cases hru with
  | bot e1 e2 e3 =>
    refine ⟨by rw [he] at hl; simp at hl; omega, fm2, u, ru, acc_snoc e3 ?_⟩
    rw [hseg] at ru
    unfold hRun at ru
    rw [ckRun_cons, if_neg hx] at ru
    split at ru
    · have key : ∃ top2 below2, hRun top2 below2 s = some (u, []) ∧ botOf top2 below2 = (hTop.1, hTop.2 ++ [x.t]) := by
        split at ru
        · exact ⟨_, _, ru, rfl⟩
        · exact ⟨_, _, ru, rfl⟩
      obtain ⟨top2, below2, h3, hb⟩ := key
      obtain ⟨_, v, hv⟩ := run_bot s _ _ _ _ h3
      rw [hb] at hv
      have hv2 : u.2 = [x.t] ++ v := hv
      rw [hv2]
      simp
    · cases ru
theorem kid_ok {a : List Tok} (ha : (houseCheck a).2 = 0) : ∀ p ∈ kidsL a (-1), ∃ (i : Nat) (x : Tok) (e : Nat), p = (i : Int) ∧ a[i]? = some x ∧ x.k ≠ 2 ∧ (x.k = 1 → partL a i = (e : Int)) ∧ (x.k ≠ 1 → e = i) ∧ i ≤ e ∧ e < a.length ∧ (houseCheck ((a.drop i).take (e + 1 - i))).2 = 0 := by
  intro p hp
  have ha0 := ha
  rw [house_iff] at ha
  obtain ⟨hl, fa, t, ra, aa⟩ := ha
  obtain ⟨i, x, w, rfl, hx, hx2, hw⟩ := kids_spec a 0 hTop t [] ra p hp
  have hil : i < a.length := (List.getElem?_eq_some_iff.1 hx).1
  have hsplit : a = a.take i ++ (x :: a.drop (i + 1)) := by rw [← drop_cons hx, List.take_append_drop]
  have hrest : hRun w [] (x :: a.drop (i + 1)) = some (t, []) := by
    have h := ra
    rw [hsplit] at h
    unfold hRun at h
    rw [ckRun_app, show ckRun houseRules houseGroups hTop [] (a.take i) = some (w, []) from hw] at h
    exact h
  have hrest0 := hrest
  unfold hRun at hrest
  rw [ckRun_cons, if_neg hx2] at hrest
  split at hrest
  · rename_i hs
    by_cases h1 : x.k = 1
    · rw [if_pos h1] at hrest
      obtain ⟨k', hpt, hk', w2, hr2⟩ := part_spec (a.drop (i + 1)) 1 _ t _ (by simp) hrest
      have hkl : k' < a.length - (i + 1) := by rw [List.length_drop] at hk'; exact hk'
      refine ⟨i, x, i + (1 + k'), by simp, hx, hx2, fun _ => ?_, fun h => absurd h1 h, by omega, by omega, ?_⟩
      · unfold partL
        rw [drop_cons hx, ptGo, if_pos h1, show (0 : Int) + 1 = ((([(w.1, w.2 ++ [x.t])] : List Lev)).length : Int) by simp, hpt]
        simp
      · refine piece_ok ha0 (pre := a.take i) (post := (a.drop (i + 1)).drop (k' + 1)) (x := x) (s := (a.drop (i + 1)).take (k' + 1)) (w := w) (w2 := w2) ?_ ?_ hx2 hw ?_
        · rw [drop_cons hx, show i + (1 + k') + 1 - i = (k' + 1) + 1 by omega, List.take_succ_cons, List.cons_append, List.take_append_drop]
          exact hsplit
        · rw [drop_cons hx, show i + (1 + k') + 1 - i = (k' + 1) + 1 by omega, List.take_succ_cons]
        · rw [drop_cons hx, show i + (1 + k') + 1 - i = (k' + 1) + 1 by omega, List.take_succ_cons]
          unfold hRun
          rw [ckRun_cons, if_neg hx2, if_pos hs, if_pos h1]
          exact hr2
    · rw [if_neg h1] at hrest
      refine ⟨i, x, i, by simp, hx, hx2, fun h => absurd h h1, fun _ => rfl, Nat.le_refl _, hil, ?_⟩
      have e1 : (a.drop i).take (i + 1 - i) = [x] := by rw [drop_cons hx, show i + 1 - i = 0 + 1 by omega, List.take_succ_cons, List.take_zero]
      rw [e1]
      exact piece_ok ha0 (pre := a.take i) (post := a.drop (i + 1)) (x := x) (s := []) (w := w) (w2 := (w.1, w.2 ++ [x.t])) hsplit rfl hx2 hw (by unfold hRun; rw [ckRun_cons, if_neg hx2, if_pos hs, if_neg h1]; rfl)
  · cases hrest
theorem kids_ne {a : List Tok} (ha : (houseCheck a).2 = 0) : kidsL a (-1) ≠ [] := by
  rw [house_iff] at ha
  obtain ⟨hl, fa, t, ra, aa⟩ := ha
  cases a with
  | nil =>
    have ht : hTop = t := by simpa [hRun, ckRun] using ra
    exact absurd rfl (acc_ne (t := hTop) rfl (by rw [ht]; exact aa))
  | cons x r =>
    unfold hRun at ra
    rw [ckRun_cons] at ra
    have h2 : x.k ≠ 2 := by
      intro e
      rw [if_pos e] at ra
      cases ra
    unfold fcRun at fa
    split at fa
    · cases fa
    · rename_i hr
      have hR : RightP x := by simpa [rightB] using hr
      unfold kidsL
      rw [show ((-1 : Int) + 1).toNat = 0 from rfl, List.drop_zero, kdGo, if_neg h2, if_pos ⟨rfl, by rcases hR with h | h | h <;> omega, by rcases hR with h | h | h <;> omega⟩]
      simp
end Go.Proofs.YtfapglhdakhbeaaGreatDoor
namespace Go.Proofs.YtfapglhdakhbeaaGreatDoor
open Go.RowKit
set_option linter.unusedVariables false
set_option linter.unusedSimpArgs false

/-- What is open: the places fit the levels. -/
inductive Mt (l : List Tok) : List Int → Lev → List Lev → Prop
  | nil {t : Lev} : t.1 = ruleOf houseRules 0 → Mt l [] t []
  | snoc {s : List Int} {j yt : Nat} {y : Tok} {t p : Lev} {q : List Lev} : l[j]? = some y → y.k = 1 → y.t = yt → 1 ≤ yt → houseRules[yt]? = some t.1 → Mt l s p q → Mt l (s ++ [(j : Int)]) t (p :: q)
theorem Mt.word {l : List Tok} {s : List Int} {t : Lev} {q : List Lev} (h : Mt l s t q) (w : List Int) : Mt l s (t.1, w) q := by
  cases h with
  | nil h => exact .nil h
  | snoc h1 h2 h3 h4 h5 h6 => exact .snoc h1 h2 h3 h4 h5 h6
theorem mayT_open1 {rs : List (Spec × Ex)} {s : Spec} {x : Tok} (h1 : x.k = 1) (h : mayT rs s x = true) : ∃ j : Nat, x.t = j ∧ 1 ≤ j ∧ rs[j]? = some (ruleOf rs x.t) := by
  obtain ⟨j, hj, y, e, hy, hr⟩ := mayT_open h1 h
  refine ⟨j, hj, ?_, by rw [hr]; exact hy⟩
  unfold mayT at h
  rw [if_neg (by omega)] at h
  cases hs : specOf rs x.t with
  | none => simp [hs] at h
  | some y =>
    unfold specOf at hs
    split at hs
    · cases hs
    · omega
theorem run_mt (l : List Tok) : ∀ (r : List Tok) (k : Nat) (s : List Int) (top t : Lev) (below z : List Lev), (∀ j x, r[j]? = some x → l[k + j]? = some x) → Mt l s top below → hRun top below r = some (t, z) → Mt l (stkGo k r s) t z := by
  intro r
  induction r with
  | nil =>
    intro k s top t below z _ h hr
    simp only [hRun, ckRun, Option.some.injEq, Prod.mk.injEq] at hr
    obtain ⟨rfl, rfl⟩ := hr
    exact h
  | cons x r ih =>
    intro k s top t below z hl h hr
    unfold hRun at hr
    rw [ckRun_cons] at hr
    rw [stkGo]
    have hl2 : ∀ j y, r[j]? = some y → l[k + 1 + j]? = some y := fun j y hy => by
      have := hl (j + 1) y (by simpa using hy)
      rw [show k + 1 + j = k + (j + 1) by omega]
      exact this
    by_cases h2 : x.k = 2
    · rw [if_pos h2] at hr
      cases h with
      | nil => cases hr
      | snoc h3 h4 h5 h6 h7 h8 =>
        simp only at hr
        split at hr
        · refine ih _ _ _ _ _ _ hl2 ?_ hr
          unfold stkStep
          rw [if_neg (by omega), if_pos h2, List.dropLast_concat]
          exact h8
        · cases hr
    · rw [if_neg h2] at hr
      split at hr
      · rename_i hs
        have hm : mayT houseRules top.1.1 x = true := by
          unfold stepOk at hs
          rw [Bool.and_eq_true] at hs
          exact hs.1
        split at hr
        · rename_i h1
          refine ih _ _ _ _ _ _ hl2 ?_ hr
          unfold stkStep
          rw [if_pos h1]
          obtain ⟨j, hj, hj1, hrj⟩ := mayT_open1 h1 hm
          exact .snoc (by have := hl 0 x rfl; simpa using this) h1 hj hj1 hrj (h.word _)
        · rename_i h1
          refine ih _ _ _ _ _ _ hl2 ?_ hr
          unfold stkStep
          rw [if_neg h1, if_neg h2]
          exact h.word _
      · cases hr
/-- The level at a place of a document. -/
theorem at_level {l : List Tok} (ok : (houseCheck l).2 = 0) {n : Nat} (hn : n ≤ l.length) : ∃ top below, hRun hTop [] (l.take n) = some (top, below) ∧ (∃ t, hRun top below (l.drop n) = some (t, []) ∧ hAcc t = true) ∧ Rl top below top below ∧ Mt l (stackL l n) top below := by
  rw [house_iff] at ok
  obtain ⟨hl, fa, t, ra, aa⟩ := ok
  have h := ra
  rw [← List.take_append_drop n l] at h
  unfold hRun at h
  rw [ckRun_app] at h
  obtain ⟨s, h1, h2⟩ := Option.bind_eq_some_iff.1 h
  obtain ⟨top, below⟩ := s
  obtain ⟨t', z', h3, h4⟩ := run_rl (l.take n) (.bot rfl hTop_wd hTop_wd) h1
  have e : some (t', z') = some (top, below) := h3.symm.trans h1
  simp only [Option.some.injEq, Prod.mk.injEq] at e
  obtain ⟨rfl, rfl⟩ := e
  refine ⟨_, _, h1, ⟨t, h2, aa⟩, h4, ?_⟩
  unfold stackL
  rw [if_neg (by omega), show (max (n : Int) 0).toNat = n by omega]
  refine run_mt l _ 0 [] hTop _ [] _ (fun j x hx => ?_) (.nil rfl) h1
  rw [List.getElem?_take] at hx
  split at hx
  · rw [Nat.zero_add]; exact hx
  · cases hx
theorem run_ne {x : Tok} {s : List Tok} {u : Lev} (h : hRun hTop [] (x :: s) = some (u, [])) : u.2 ≠ [] := by
  unfold hRun at h
  rw [ckRun_cons] at h
  split at h
  · cases h
  · split at h
    · have key : ∃ top2 below2, hRun top2 below2 s = some (u, []) ∧ botOf top2 below2 = (hTop.1, hTop.2 ++ [x.t]) := by
        split at h
        · exact ⟨_, _, h, rfl⟩
        · exact ⟨_, _, h, rfl⟩
      obtain ⟨top2, below2, h3, hb⟩ := key
      obtain ⟨_, v, hv⟩ := run_bot s _ _ _ _ h3
      rw [hb] at hv
      have hv2 : u.2 = [x.t] ++ v := hv
      rw [hv2]
      simp
    · cases h
theorem text_nn : ∀ i : Nat, i < 9 → (0 : Int) ∈ tyR (ruleOf houseRules (i : Int)) → nnOf houseGroups (ruleOf houseRules (i : Int)).2 = true ∧ (ruleOf houseRules (i : Int)).1.expr = textStar ∧ tyR (ruleOf houseRules (i : Int)) = [0] := by
  intro i hi h0
  have h : i = 0 ∨ i = 1 ∨ i = 2 ∨ i = 3 ∨ i = 4 ∨ i = 5 ∨ i = 6 ∨ i = 7 ∨ i = 8 := by omega
  have e0 : tyR (ruleOf houseRules ((0 : Nat) : Int)) = [1, 2, 3, 4, 5, 7] := by kernel_rfl
  have e3 : tyR (ruleOf houseRules ((3 : Nat) : Int)) = [1, 2, 3, 4, 5, 7] := by kernel_rfl
  have e5 : tyR (ruleOf houseRules ((5 : Nat) : Int)) = [6] := by kernel_rfl
  have e6 : tyR (ruleOf houseRules ((6 : Nat) : Int)) = [1, 2, 3, 4, 5, 7] := by kernel_rfl
  have e7 : tyR (ruleOf houseRules ((7 : Nat) : Int)) = [] := by kernel_rfl
  have e8 : tyR (ruleOf houseRules ((8 : Nat) : Int)) = [] := by kernel_rfl
  rcases h with rfl | rfl | rfl | rfl | rfl | rfl | rfl | rfl | rfl
  · rw [e0] at h0; exact absurd h0 (by decide)
  · exact ⟨by kernel_rfl, by kernel_rfl, by kernel_rfl⟩
  · exact ⟨by kernel_rfl, by kernel_rfl, by kernel_rfl⟩
  · rw [e3] at h0; exact absurd h0 (by decide)
  · exact ⟨by kernel_rfl, by kernel_rfl, by kernel_rfl⟩
  · rw [e5] at h0; exact absurd h0 (by decide)
  · rw [e6] at h0; exact absurd h0 (by decide)
  · rw [e7] at h0; exact absurd h0 (by decide)
  · rw [e8] at h0; exact absurd h0 (by decide)
theorem text_rule {a : Lev} (h : Wd a) (h0 : (0 : Int) ∈ tyR a.1) : nnOf houseGroups a.1.2 = true ∧ a.1.1.expr = textStar ∧ tyR a.1 = [0] := by
  obtain ⟨t, ht⟩ := h.1
  obtain ⟨i, hi, hr⟩ := house_rule t
  rw [ht, hr] at h0 ⊢
  exact text_nn i hi h0
abbrev letter : Tok := ⟨0, 0, 120, 0⟩
theorem letter_may (s : Spec) (hm : s.marks = 0 ∨ s.marks = 7) : mayT houseRules s letter = true := by
  unfold mayT runeB marksIn
  rw [if_pos rfl]
  rcases hm with h | h <;> rw [h] <;> rfl
theorem house_marks : ((List.range 9).all fun i => decide ((ruleOf houseRules (i : Int)).1.marks = 0 ∨ (ruleOf houseRules (i : Int)).1.marks = 7)) = true := by kernel_rfl
theorem wd_marks {a : Lev} (h : Wd a) : a.1.1.marks = 0 ∨ a.1.1.marks = 7 := by
  obtain ⟨t, ht⟩ := h.1
  obtain ⟨i, hi, hr⟩ := house_rule t
  rw [ht, hr]
  simpa using List.all_eq_true.1 house_marks i (List.mem_range.2 hi)
/-- A letter may be put where the level's types have text. -/
theorem put_iff {l : List Tok} (ok : (houseCheck l).2 = 0) (hl : l.length ≤ 200) {n : Nat} {top : Lev} {below : List Lev} (h1 : hRun hTop [] (l.take n) = some (top, below)) (h2 : ∃ t, hRun top below (l.drop n) = some (t, []) ∧ hAcc t = true) (hR : Rl top below top below) :
    (houseCheck (l.take n ++ letter :: l.drop n)).2 = 0 ↔ (0 : Int) ∈ tyR top.1 := by
  have hw := hR.wd.2.1
  have hstep := stepOk_iff hw letter
  rw [house_iff]
  have hrun : hRun hTop [] (l.take n ++ letter :: l.drop n) = if stepOk houseRules houseGroups top letter = true then hRun (top.1, top.2 ++ [0]) below (l.drop n) else none := by
    unfold hRun
    rw [ckRun_app, show ckRun houseRules houseGroups hTop [] (l.take n) = some (top, below) from h1]
    show ckRun houseRules houseGroups top below (letter :: l.drop n) = _
    rw [ckRun_cons, if_neg (by decide)]
    split
    · rw [if_neg (by decide)]
    · rfl
  constructor
  · rintro ⟨_, _, t, hr, _⟩
    rw [hrun] at hr
    split at hr
    · rename_i hs
      exact (hstep.1 hs).2
    · cases hr
  · intro h0
    have hs := hstep.2 ⟨letter_may _ (wd_marks hw), h0⟩
    rw [if_pos hs] at hrun
    obtain ⟨hnn, _, _⟩ := text_rule hw h0
    obtain ⟨t, hr, ha⟩ := h2
    have hR2 : Rl top below (top.1, top.2 ++ [0]) below := by
      cases hR with
      | bot e1 e2 e3 => exact .bot rfl e2 (e2.snoc h0)
      | up e1 e2 e3 e4 e5 => exact .up rfl e2 (e2.snoc h0) (by rw [show hAcc top = true from (e2.sig.acc top.2).2 ⟨fun _ => hnn, e2.2⟩, acc_snoc (e2.snoc h0) (by simp)]) e5
    obtain ⟨t', z', hr', hrl⟩ := run_rl _ hR2 hr
    cases hrl with
    | bot e1 e2 e3 =>
      have hfin : hRun hTop [] (l.take n ++ letter :: l.drop n) = some (t', []) := hrun.trans hr'
      rw [house_iff] at ok
      obtain ⟨_, fa, _⟩ := ok
      refine ⟨by simp; omega, ?_, t', hfin, acc_snoc e3 ?_⟩
      · rw [← List.take_append_drop n l, fcRun_app] at fa
        obtain ⟨m, f1, f2⟩ := Option.bind_eq_some_iff.1 fa
        rw [fcRun_app, f1]
        show fcRun m (letter :: l.drop n) = _
        rw [fcRun, if_neg (by rw [show rightB letter = true by decide]; decide), if_neg (by decide), if_neg (by decide)]
        exact f2
      · cases hd : l.take n ++ letter :: l.drop n with
        | nil => simp at hd
        | cons x s =>
          rw [hd] at hfin
          exact run_ne hfin
/-- What stands in a level is of its types. -/
theorem kids_ty (i : Int) (R : Spec × Ex) : ∀ (l : List Tok) (k d : Nat) (top : Lev) (below : List Lev) (S : Lev × List Lev), (∀ a ∈ top :: below, Wd a) → (0 ≤ i ∨ d = below.length) → ((top :: below)[d]?).map (·.1) = some R → hRun top below l = some S → ∀ p ∈ kdGo i k d l, ∃ (j : Nat) (x : Tok), p = ((k + j : Nat) : Int) ∧ l[j]? = some x ∧ x.t ∈ tyR R := by
  intro l
  induction l with
  | nil =>
    intro k d top below S _ _ _ _ p hp
    cases hp
  | cons x r ih =>
    intro k d top below S hW hd hR h p hp
    unfold hRun at h
    rw [ckRun_cons] at h
    rw [kdGo] at hp
    have wrap : ∀ (k' d' : Nat) (top2 : Lev) (below2 : List Lev), k' = k + 1 → (∀ a ∈ top2 :: below2, Wd a) → (0 ≤ i ∨ d' = below2.length) → ((top2 :: below2)[d']?).map (·.1) = some R → hRun top2 below2 r = some S → p ∈ kdGo i k' d' r → ∃ (j : Nat) (y : Tok), p = ((k + j : Nat) : Int) ∧ (x :: r)[j]? = some y ∧ y.t ∈ tyR R := by
      intro k' d' top2 below2 hk' g1 g2 g3 g4 g5
      obtain ⟨j, y, h3, h4, h5⟩ := ih k' d' top2 below2 S g1 g2 g3 g4 p g5
      exact ⟨j + 1, y, by rw [h3, hk']; congr 1; omega, by simpa using h4, h5⟩
    by_cases h2 : x.k = 2
    · rw [if_pos h2] at h hp
      cases below with
      | nil => cases h
      | cons q qs =>
        simp only at h
        split at h
        · by_cases hd0 : d = 0
          · subst hd0
            rcases hd with hd | hd
            · rw [if_pos ⟨rfl, hd⟩] at hp
              cases hp
            · simp at hd
          · rw [if_neg (fun e => hd0 e.1)] at hp
            obtain ⟨d', rfl⟩ : ∃ d', d = d' + 1 := ⟨d - 1, by omega⟩
            refine wrap _ _ q qs rfl (fun a ha => hW a (List.mem_cons_of_mem _ ha)) ?_ ?_ h hp
            · rcases hd with hd | hd
              · exact .inl hd
              · exact .inr (by simpa using hd)
            · simpa using hR
        · cases h
    · rw [if_neg h2] at h hp
      split at h
      · rename_i hs
        have hwt := hW top List.mem_cons_self
        have hx := (stepOk_iff hwt x).1 hs
        have hp0 := hp
        clear hp
        rcases List.mem_append.1 hp0 with hp | hp
        · clear hp0
          split at hp
          · rename_i hc
            obtain ⟨rfl, _⟩ := hc
            have e : top.1 = R := by simpa using hR
            exact ⟨0, x, by simpa using hp, rfl, by rw [← e]; exact hx.2⟩
          · cases hp
        · have hsn : ∀ a ∈ ((top.1, top.2 ++ [x.t]) : Lev) :: below, Wd a := fun a ha => by
            rcases List.mem_cons.1 ha with rfl | ha
            · exact hwt.snoc hx.2
            · exact hW a (List.mem_cons_of_mem _ ha)
          have hR2 : ((((top.1, top.2 ++ [x.t]) : Lev) :: below)[d]?).map (·.1) = some R := by
            cases d with
            | zero => simpa using hR
            | succ d => simpa using hR
          by_cases h1 : x.k = 1
          · rw [if_pos h1] at h hp
            refine wrap _ _ _ _ rfl (fun a ha => ?_) ?_ ?_ h hp
            · rcases List.mem_cons.1 ha with rfl | ha
              · exact wd_new _
              · exact hsn a ha
            · rcases hd with hd | hd
              · exact .inl hd
              · exact .inr (by simp [hd])
            · simpa using hR2
          · rw [if_neg h1] at h hp
            exact wrap _ _ _ _ rfl hsn hd hR2 h hp
      · cases h
theorem rl_all {a b : Lev} {q q' : List Lev} (h : Rl a q b q') : ∀ x ∈ a :: q, Wd x := by
  induction h with
  | bot h1 h2 h3 =>
    intro x hx
    rw [List.mem_singleton.1 hx]
    exact h2
  | up h1 h2 h3 h4 h5 ih =>
    intro x hx
    rcases List.mem_cons.1 hx with rfl | hx
    · exact h2
    · exact ih x hx
/-- What May asks: the rule at a place, and the kids' types. -/
structure AtP (l : List Tok) (n : Nat) (R : Spec × Ex) : Prop where
  whole : aroundL l n = -1 ∧ houseRules[0]? = some R ∨ ∃ (j yt : Nat) (y : Tok), aroundL l n = j ∧ l[j]? = some y ∧ y.k = 1 ∧ y.t = yt ∧ 1 ≤ yt ∧ houseRules[yt]? = some R
  kids : ∀ p ∈ kidsL l (aroundL l n), ∃ (i : Nat) (x : Tok), p = i ∧ l[i]? = some x ∧ x.t ∈ tyR R
  wd : Wd (R, [])
  put : (houseCheck (l.take n ++ letter :: l.drop n)).2 = 0 ↔ (0 : Int) ∈ tyR R
theorem at_place {l : List Tok} (ok : (houseCheck l).2 = 0) (hl : l.length ≤ 200) {n : Nat} (hn : n ≤ l.length) : ∃ R, AtP l n R := by
  obtain ⟨top, below, h1, h2, hR, hM⟩ := at_level ok hn
  have hw := hR.wd.2.1
  have hput := put_iff ok hl h1 h2 hR
  have hwd : Wd (top.1, []) := ⟨hw.1, fun t ht => by cases ht⟩
  generalize hs : stackL l n = s at hM
  cases hM with
  | nil ht =>
    have ha : aroundL l n = -1 := by unfold aroundL; rw [hs]; rfl
    have h0 : houseRules[0]? = some top.1 := by
      rw [ht]
      unfold ruleOf
      obtain ⟨y, hy⟩ : ∃ y, houseRules[0]? = some y := ⟨_, List.getElem?_eq_getElem (by rw [house_len]; decide)⟩
      rw [show (0 : Int).toNat = 0 from rfl, hy]
      rfl
    refine ⟨top.1, .inl ⟨ha, h0⟩, ?_, hwd, hput⟩
    rw [ha]
    intro p hp
    rw [house_iff] at ok
    obtain ⟨_, _, t, ra, _⟩ := ok
    obtain ⟨j, x, e, hx, hxt⟩ := kids_ty (-1) top.1 l 0 0 hTop [] _ (fun a ha => by rw [List.mem_singleton.1 ha]; exact hTop_wd) (.inr rfl) (by rw [ht]; rfl) ra p hp
    exact ⟨j, x, by rw [e, Nat.zero_add], hx, hxt⟩
  | @snoc s' j yt y _ p q hy hy1 hyt hyt1 hRr hM' =>
    have ha : aroundL l n = j := by unfold aroundL; rw [hs]; simp
    refine ⟨top.1, .inr ⟨j, yt, y, ha, hy, hy1, hyt, hyt1, hRr⟩, ?_, hwd, hput⟩
    rw [ha]
    intro p' hp'
    obtain ⟨top3, below3, g1, ⟨t3, g2, _⟩, gR, _⟩ := at_level ok (n := j + 1) (by have := (List.getElem?_eq_some_iff.1 hy).1; omega)
    have g3 : hRun hTop [] (l.take j ++ [y]) = some (top3, below3) := by
      have e : l.take (j + 1) = l.take j ++ [y] := by rw [List.take_add_one, hy]; rfl
      rw [← e]; exact g1
    have htop : top3.1 = top.1 := by
      unfold hRun at g3
      rw [ckRun_app] at g3
      obtain ⟨S, _, g5⟩ := Option.bind_eq_some_iff.1 g3
      rw [ckRun_cons, if_neg (by omega)] at g5
      split at g5
      · try rw [if_pos hy1] at g5
        simp only [ckRun, Option.some.injEq, Prod.mk.injEq] at g5
        rw [← g5.1]
        show ruleOf houseRules y.t = top.1
        unfold ruleOf
        rw [hyt, Int.toNat_natCast, hRr]
        rfl
      · cases g5
    unfold kidsL at hp'
    rw [show ((j : Int) + 1).toNat = j + 1 by omega] at hp'
    obtain ⟨j2, x, e, hx, hxt⟩ := kids_ty (j : Int) top.1 (l.drop (j + 1)) (j + 1) 0 top3 below3 _ (rl_all gR) (.inl (by omega)) (by rw [← htop]; rfl) g2 p' hp'
    rw [List.getElem?_drop] at hx
    exact ⟨j + 1 + j2, x, e, hx, hxt⟩
def tyAt (l : List Tok) (p : Int) : Int := (l[p.toNat]?.map (·.t)).getD 0
/-- The word of a level with one more put in. -/
def mayGo (l : List Tok) (at' t : Int) : List Int → Bool → List Int
  | [], put => if put = true then [] else [t]
  | p :: r, put => if at' ≤ p ∧ put = false then t :: tyAt l p :: mayGo l at' t r true else tyAt l p :: mayGo l at' t r put
theorem mayGo_mem (l : List Tok) (at' t : Int) : ∀ (ks : List Int) (put : Bool), ∀ u ∈ mayGo l at' t ks put, u = t ∨ ∃ p ∈ ks, u = tyAt l p := by
  intro ks
  induction ks with
  | nil =>
    intro put u hu
    rw [mayGo] at hu
    split at hu
    · cases hu
    · exact .inl (List.mem_singleton.1 hu)
  | cons p r ih =>
    intro put u hu
    rw [mayGo] at hu
    split at hu
    · rcases List.mem_cons.1 hu with rfl | hu
      · exact .inl rfl
      · rcases List.mem_cons.1 hu with rfl | hu
        · exact .inr ⟨p, by simp, rfl⟩
        · rcases ih _ u hu with h | ⟨q, hq, h⟩
          · exact .inl h
          · exact .inr ⟨q, by simp [hq], h⟩
    · rcases List.mem_cons.1 hu with rfl | hu
      · exact .inr ⟨p, by simp, rfl⟩
      · rcases ih _ u hu with h | ⟨q, hq, h⟩
        · exact .inl h
        · exact .inr ⟨q, by simp [hq], h⟩
theorem mayGo_in (l : List Tok) (at' t : Int) : ∀ (ks : List Int), t ∈ mayGo l at' t ks false := by
  intro ks
  induction ks with
  | nil => simp [mayGo]
  | cons p r ih =>
    rw [mayGo]
    split
    · simp
    · simp [ih]
/-- May's answer at text. -/
theorem may_iff {l : List Tok} {n : Nat} {R : Spec × Ex} (h : AtP l n R) : regAccepts R.2 houseGroups (mayGo l n 0 (kidsL l (aroundL l n)) false) = decide ((houseCheck (l.take n ++ letter :: l.drop n)).2 = 0) := by
  rw [Bool.eq_iff_iff, decide_eq_true_eq, h.put, h.wd.sig.acc]
  constructor
  · exact fun ⟨_, h1⟩ => h1 0 (mayGo_in l n 0 _)
  · intro h0
    refine ⟨fun e => ?_, fun u hu => ?_⟩
    · have := mayGo_in l n 0 (kidsL l (aroundL l n))
      rw [e] at this
      cases this
    · rcases mayGo_mem l n 0 _ _ u hu with rfl | ⟨p, hp, rfl⟩
      · exact h0
      · obtain ⟨i, x, rfl, hx, hxt⟩ := h.kids p hp
        unfold tyAt
        rw [Int.toNat_natCast, hx]
        exact hxt
theorem may_expr {l : List Tok} {n : Nat} {R : Spec × Ex} (h : AtP l n R) (h0 : (houseCheck (l.take n ++ letter :: l.drop n)).2 = 0) : R.1.expr = textStar ∧ aroundL l n ≠ -1 := by
  have h1 := h.put.1 h0
  refine ⟨(text_rule h.wd h1).2.1, fun e => ?_⟩
  rcases h.whole with ⟨_, h2⟩ | ⟨j, yt, y, h2, _⟩
  · have e2 : R = ruleOf houseRules ((0 : Nat) : Int) := by
      unfold ruleOf
      rw [Int.toNat_natCast, h2]
      rfl
    have e0 : tyR (ruleOf houseRules ((0 : Nat) : Int)) = [1, 2, 3, 4, 5, 7] := by kernel_rfl
    rw [e2, e0] at h1
    exact absurd h1 (by decide)
  · omega
end Go.Proofs.YtfapglhdakhbeaaGreatDoor
