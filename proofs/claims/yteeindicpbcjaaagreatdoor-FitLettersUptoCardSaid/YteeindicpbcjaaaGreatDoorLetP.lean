/- Letters may be put, plain: where one may stand, many may. -/
import Derived.Test.YteeindicpbcjaaaGreatDoorMayP
import Derived.Test.YteeindicpbcjaaaGreatDoorStepP
namespace Go.Proofs.YteeindicpbcjaaaGreatDoor
set_option linter.unusedVariables false
set_option linter.unusedSimpArgs false

def isLet (x : Tok) : Prop := x.k = 0 ∧ x.t = 0 ∧ x.m = 0 ∧ 97 ≤ x.n ∧ x.n ≤ 122
theorem let_right {x : Tok} (h : isLet x) : rightB x = true := by
  obtain ⟨k, t, n, m⟩ := x
  obtain ⟨h1, h2, h3, h4, h5⟩ := h
  simp only at h1 h2 h3 h4 h5
  subst h1 h2 h3
  rcases (by omega : n = 97 ∨ n = 98 ∨ n = 99 ∨ n = 100 ∨ n = 101 ∨ n = 102 ∨ n = 103 ∨ n = 104 ∨ n = 105 ∨ n = 106 ∨ n = 107 ∨ n = 108 ∨ n = 109 ∨ n = 110 ∨ n = 111 ∨ n = 112 ∨ n = 113 ∨ n = 114 ∨ n = 115 ∨ n = 116 ∨ n = 117 ∨ n = 118 ∨ n = 119 ∨ n = 120 ∨ n = 121 ∨ n = 122) with rfl | rfl | rfl | rfl | rfl | rfl | rfl | rfl | rfl | rfl | rfl | rfl | rfl | rfl | rfl | rfl | rfl | rfl | rfl | rfl | rfl | rfl | rfl | rfl | rfl | rfl <;> decide
theorem let_may (s : Spec) (hm : s.marks = 0 ∨ s.marks = 7) {x : Tok} (h : isLet x) : mayT houseRules s x = true := by
  obtain ⟨k, t, n, m⟩ := x
  obtain ⟨h1, h2, h3, h4, h5⟩ := h
  simp only at h1 h2 h3 h4 h5
  subst h1 h2 h3
  have h10 : n ≠ 10 := by omega
  unfold mayT runeB marksIn
  rw [if_pos rfl]
  rcases hm with h | h <;> rw [h] <;> simp [h10] <;> rfl
theorem let_step {a : Lev} (hw : Wd a) (h0 : (0 : Int) ∈ tyR a.1) {x : Tok} (h : isLet x) : stepOk houseRules houseGroups a x = true :=
  (stepOk_iff hw x).2 ⟨let_may _ (wd_marks hw) h, by rw [h.2.1]; exact h0⟩
theorem lets_wd {a : Lev} (h0 : (0 : Int) ∈ tyR a.1) : ∀ (k : Nat) (w : List Int), Wd (a.1, w) → Wd (a.1, w ++ List.replicate k 0)
  | 0, w, h => by simpa using h
  | k + 1, w, h => by
    have h1 := lets_wd h0 k (w ++ [0]) (Wd.snoc h h0)
    rw [List.append_assoc] at h1
    exact h1
theorem lets_run {a : Lev} {below : List Lev} (h0 : (0 : Int) ∈ tyR a.1) (r : List Tok) : ∀ (text : List Tok) (w : List Int), Wd (a.1, w) → (∀ x ∈ text, isLet x) → hRun (a.1, w) below (text ++ r) = hRun (a.1, w ++ List.replicate text.length 0) below r
  | [], w, _, _ => by simp
  | x :: s, w, hw, ht => by
    have hx := ht x (List.mem_cons_self ..)
    have hs : stepOk houseRules houseGroups (a.1, w) x = true := let_step hw h0 hx
    have h1 : hRun (a.1, w) below (x :: (s ++ r)) = hRun (a.1, w ++ [0]) below (s ++ r) := by
      unfold hRun
      rw [ckRun_cons, if_neg (by rw [hx.1]; decide), if_pos hs, if_neg (by rw [hx.1]; decide), hx.2.1]
    rw [List.cons_append, h1, lets_run h0 r s (w ++ [0]) (Wd.snoc hw h0) (fun y hy => ht y (List.mem_cons_of_mem _ hy)), List.append_assoc]
    rfl
theorem lets_fc (r : List Tok) (m : Nat) : ∀ text : List Tok, (∀ x ∈ text, isLet x) → fcRun m (text ++ r) = fcRun m r
  | [], _ => rfl
  | x :: s, ht => by
    have hx := ht x (List.mem_cons_self ..)
    rw [List.cons_append, fcRun, if_neg (by rw [let_right hx]; decide), if_neg (by rw [hx.1]; decide), if_neg (by rw [hx.1]; decide)]
    exact lets_fc r m s (fun y hy => ht y (List.mem_cons_of_mem _ hy))
theorem lets_put {l : List Tok} (ok : (houseCheck l).2 = 0) (hl : l.length ≤ 200) {n : Nat} (hn : n ≤ l.length) (h : (houseCheck (l.take n ++ letter :: l.drop n)).2 = 0) {text : List Tok} (ht : ∀ x ∈ text, isLet x) (hb : text.length ≤ 100) :
    (houseCheck (l.take n ++ (text ++ l.drop n))).2 = 0 := by
  by_cases hz : text = []
  · subst hz
    rw [List.nil_append, List.take_append_drop]
    exact ok
  obtain ⟨top, below, h1, h2, hR, _⟩ := at_level ok hn
  have h0 := (put_iff ok hl h1 h2 hR).1 h
  have hw := hR.wd.2.1
  obtain ⟨hnn, _, _⟩ := text_rule hw h0
  obtain ⟨t, hr, ha⟩ := h2
  have hw2 := lets_wd h0 text.length top.2 hw
  have hne : top.2 ++ List.replicate text.length 0 ≠ [] := by
    intro e
    have := congrArg List.length e
    simp at this
    exact hz this.2
  have hR2 : Rl top below (top.1, top.2 ++ List.replicate text.length 0) below := by
    cases hR with
    | bot e1 e2 e3 => exact .bot rfl e2 hw2
    | up e1 e2 e3 e4 e5 => exact .up rfl e2 hw2 (by rw [show hAcc top = true from (e2.sig.acc top.2).2 ⟨fun _ => hnn, e2.2⟩, acc_snoc hw2 hne]) e5
  obtain ⟨t', z', hr', hrl⟩ := run_rl _ hR2 hr
  rw [house_iff]
  have hrun : hRun hTop [] (l.take n ++ (text ++ l.drop n)) = hRun (top.1, top.2 ++ List.replicate text.length 0) below (l.drop n) := by
    have h9 : hRun hTop [] (l.take n ++ (text ++ l.drop n)) = hRun top below (text ++ l.drop n) := by
      unfold hRun
      rw [ckRun_app, show ckRun houseRules houseGroups hTop [] (l.take n) = some (top, below) from h1]
      rfl
    rw [h9]
    exact lets_run (a := top) h0 (l.drop n) text top.2 hw ht
  cases hrl with
  | bot e1 e2 e3 =>
    have hfin := hrun.trans hr'
    rw [house_iff] at ok
    obtain ⟨_, fa, _⟩ := ok
    refine ⟨by simp; omega, ?_, t', hfin, acc_snoc e3 ?_⟩
    · rw [← List.take_append_drop n l, fcRun_app] at fa
      obtain ⟨m, f1, f2⟩ := Option.bind_eq_some_iff.1 fa
      rw [fcRun_app, f1]
      show fcRun m (text ++ l.drop n) = _
      rw [lets_fc _ _ _ ht]
      exact f2
    · cases hd : l.take n ++ (text ++ l.drop n) with
      | nil => simp at hd; exact absurd hd.2.1 hz
      | cons x s =>
        rw [hd] at hfin
        exact run_ne hfin
theorem lets_remap {l : List Tok} (ok : (houseCheck l).2 = 0) (hl : l.length ≤ 200) {n : Nat} (hn : n ≤ l.length) (h : (houseCheck (l.take n ++ letter :: l.drop n)).2 = 0) {text : List Tok} (ht : ∀ x ∈ text, isLet x) (hb : text.length ≤ 100) :
    remapErr l (repl (n : Nat) (n : Nat) text) = 0 := by
  refine remap_zero.2 ⟨flat_of_house ok, step_check_zero.2 ⟨by show text.length ≤ _; omega, repl_ok.2 ⟨by omega, by omega, by omega, fun x hx => let_right (ht x hx)⟩⟩, by show ((n : Nat) : Int) ≤ _; omega, ?_⟩
  rw [repl_do, Int.toNat_natCast, List.append_assoc]
  exact lets_put ok hl hn h ht hb
end Go.Proofs.YteeindicpbcjaaaGreatDoor
