/- A document's text (plain). Commands, plain: another type, split and joined. Commands, plain: around and out again; lifted. -/
import Derived.Test.YteeindicpbcjaaaGreatDoorFlatC
import Derived.Test.YteeindicpbcjaaaGreatDoorStepP
import Derived.Test.YteeindicpbcjaaaGreatDoorStack
import Derived.Lib.RuneBytes
import Derived.Laws.Shifts
import Derived.Laws.ShiftsVar
import Derived.Laws.BitsAll
import Derived.Laws.BitsLemmas
namespace Go.Proofs.YteeindicpbcjaaaGreatDoor
open Go.RowKit
set_option linter.unusedVariables false
set_option linter.unusedSimpArgs false

abbrev encB (r : Int) : List UInt8 := Lib.encodeRune r
/-- All code points, as bytes. -/
def textB (l : List Tok) : List UInt8 := (l.filter (fun t => decide (t.k = 0) && rightB t)).flatMap (fun t => encB t.n)
theorem textB_take {l : List Tok} {k : Nat} {x : Tok} (hx : l[k]? = some x) : textB (l.take (k + 1)) = textB (l.take k) ++ if (decide (x.k = 0) && rightB x) = true then encB x.n else [] := by
  unfold textB
  rw [List.take_add_one, hx, List.filter_append, List.flatMap_append]
  congr 1
  by_cases h : (decide (x.k = 0) && rightB x) = true <;> simp [List.filter, h]
theorem textB_len (l : List Tok) : (textB l).length ≤ 4 * l.length := by
  unfold textB
  induction l with
  | nil => simp
  | cons t r ih =>
    have h4 : (encB t.n).length ≤ 4 := by have := (Lib.encodeRuneZ_length t.n).2; simpa [Lib.encodeRune] using this
    by_cases h : (decide (t.k = 0) && rightB t) = true
    · rw [List.filter_cons_of_pos (p := fun t => decide (t.k = 0) && rightB t) h, List.flatMap_cons, List.length_append, List.length_cons]
      omega
    · rw [List.filter_cons_of_neg (p := fun t => decide (t.k = 0) && rightB t) h, List.length_cons]
      omega
theorem right_point {x : Tok} (h0 : x.k = 0) (h : rightB x = true) : 0 ≤ x.n ∧ x.n ≤ 1114111 ∧ (x.n < 55296 ∨ 57343 < x.n) := by
  have h := of_decide_eq_true h
  simp only [RightP, PointP] at h
  omega

end Go.Proofs.YteeindicpbcjaaaGreatDoor
namespace Go.Proofs.YteeindicpbcjaaaGreatDoor
open Go.RowKit
set_option linter.unusedVariables false
set_option linter.unusedSimpArgs false

/-! ### What is open -/
theorem stkGo_mem : ∀ (r : List Tok) (k : Nat) (s : List Int), ∀ p ∈ stkGo k r s, p ∈ s ∨ ∃ (j : Nat) (x : Tok), p = ((k + j : Nat) : Int) ∧ r[j]? = some x ∧ x.k = 1 := by
  intro r
  induction r with
  | nil => intro k s p hp; exact .inl hp
  | cons x r ih =>
    intro k s p hp
    rw [stkGo] at hp
    rcases ih (k + 1) _ p hp with h | ⟨j, y, h1, h2, h3⟩
    · unfold stkStep at h
      split at h
      · rename_i h1
        rcases List.mem_append.1 h with h | h
        · exact .inl h
        · exact .inr ⟨0, x, by rw [List.mem_singleton.1 h]; simp, rfl, h1⟩
      · split at h
        · exact .inl (List.dropLast_subset _ h)
        · exact .inl h
    · exact .inr ⟨j + 1, y, by rw [h1]; congr 1; omega, by simpa using h2, h3⟩
theorem around_open {l : List Tok} {p : Int} (h : aroundL l p ≠ -1) : ∃ (i : Nat) (y : Tok), aroundL l p = (i : Int) ∧ l[i]? = some y ∧ y.k = 1 ∧ (i : Int) < p := by
  unfold aroundL at h ⊢
  cases hs : (stackL l p).getLast? with
  | none => rw [hs] at h; exact absurd rfl h
  | some q =>
    have hm := List.mem_of_getLast? hs
    unfold stackL at hm
    split at hm
    · cases hm
    · rename_i hp
      rcases stkGo_mem _ _ _ q hm with h1 | ⟨j, x, h1, h2, h3⟩
      · cases h1
      · rw [List.getElem?_take] at h2
        split at h2
        · refine ⟨j, x, ?_, h2, h3, by omega⟩
          rw [Option.getD_some, h1]
          congr 1
          omega
        · cases h2
theorem stkGo_kinds : ∀ (a b : List Tok) (k : Nat) (s : List Int), a.map (·.k) = b.map (·.k) → stkGo k a s = stkGo k b s := by
  intro a
  induction a with
  | nil =>
    intro b k s h
    cases b with
    | nil => rfl
    | cons => cases h
  | cons x r ih =>
    intro b k s h
    cases b with
    | nil => cases h
    | cons y q =>
      simp only [List.map_cons, List.cons.injEq] at h
      rw [stkGo, stkGo, show stkStep k x s = stkStep k y s by unfold stkStep; rw [h.1]]
      exact ih q _ _ h.2
theorem stack_kinds {a b : List Tok} (h : a.map (·.k) = b.map (·.k)) (p : Int) : stackL a p = stackL b p := by
  unfold stackL
  have hl : a.length = b.length := by simpa using congrArg List.length h
  rw [hl]
  split
  · rfl
  · exact stkGo_kinds _ _ _ _ (by rw [List.map_take, List.map_take, h])
theorem around_kinds {a b : List Tok} (h : a.map (·.k) = b.map (·.k)) (p : Int) : aroundL a p = aroundL b p := by
  unfold aroundL
  rw [stack_kinds h]

/-! ### Another type -/
abbrev openT (t n : Int) : Tok := ⟨1, t, n, 0⟩
theorem set_parts (l : List Tok) (i : Nat) (x : Tok) (hi : i < l.length) : l.take i ++ [x] ++ l.drop (i + 1) = l.set i x := by
  rw [List.set_eq_take_append_cons_drop, if_pos hi]
  simp
theorem right_open {x : Tok} (h : rightB x = true) (h1 : x.k = 1) : x = openT x.t x.n := by
  have h2 : RightP x := of_decide_eq_true h
  unfold RightP at h2
  obtain ⟨k, t, n, m⟩ := x
  simp only at h1 h2 ⊢
  subst h1
  have : m = 0 := by omega
  subst this
  rfl
/-- What EditRetypes says, plain. -/
theorem retypes_plain {l : List Tok} {p t n : Int} {i : Nat} (hl : (houseCheck l).2 = 0) (hi : aroundL l p = (i : Int)) (h : remapErr l (repl i (i + 1) [openT t n]) = 0) :
    i < l.length ∧ stepDo l (repl i (i + 1) [openT t n]) = l.set i (openT t n) ∧ (houseCheck (l.set i (openT t n))).2 = 0 ∧ aroundL (l.set i (openT t n)) p = (i : Int) ∧
    ∃ y : Tok, l[i]? = some y ∧ y = openT y.t y.n ∧ rightB y = true ∧ remapErr (l.set i (openT t n)) (repl i (i + 1) [y]) = 0 ∧ stepDo (l.set i (openT t n)) (repl i (i + 1) [y]) = l := by
  obtain ⟨i', y, h1, h2, h3, h4⟩ := around_open (l := l) (p := p) (by rw [hi]; omega)
  have : i' = i := by rw [hi] at h1; omega
  subst this
  obtain ⟨hlt, hy⟩ := List.getElem?_eq_some_iff.1 h2
  obtain ⟨r1, r2, r3, r4⟩ := remap_zero.1 h
  have hdo : stepDo l (repl i' (i' + 1) [openT t n]) = l.set i' (openT t n) := by
    rw [repl_do, show ((i' : Int)).toNat = i' by omega, show ((i' : Int) + 1).toNat = i' + 1 by omega]
    exact set_parts l i' _ hlt
  rw [hdo] at r4
  have hback : stepDo (l.set i' (openT t n)) (repl i' (i' + 1) [y]) = l := by
    rw [repl_do, show ((i' : Int)).toNat = i' by omega, show ((i' : Int) + 1).toNat = i' + 1 by omega, set_parts _ i' _ (by simpa using hlt), List.set_set, ← hy]
    exact List.set_getElem_self hlt
  have hk : (l.set i' (openT t n)).map (·.k) = l.map (·.k) := by
    rw [List.map_set]
    have e : (openT t n).k = (l.map (·.k))[i']'(by simpa using hlt) := by simp [hy, h3]
    rw [e]
    exact List.set_getElem_self _
  have hr := house_rights hl y (List.mem_of_getElem? h2)
  have h48 := house_len_le hl
  refine ⟨hlt, hdo, r4, (around_kinds hk p).trans hi, y, h2, right_open hr h3, hr, remap_zero.2 ⟨flat_of_house r4, step_check_zero.2 ⟨by simp [repl], repl_ok.2 ⟨by omega, by omega, by omega, fun z hz => ?_⟩⟩, ?_, by rw [hback]; exact hl⟩, hback⟩
  · rw [List.mem_singleton.1 hz]
    exact hr
  · show ((i' : Int) + 1) ≤ _
    rw [List.length_set]
    omega

/-! ### Split, and joined -/
abbrev shutT : Tok := ⟨2, 0, 0, 0⟩
theorem textB_app (a b : List Tok) : textB (a ++ b) = textB a ++ textB b := by
  unfold textB
  rw [List.filter_append, List.flatMap_append]
theorem textB_none {x : Tok} (h : x.k ≠ 0) : textB [x] = [] := by
  unfold textB
  simp [List.filter_cons, h]
/-- What EditSplits says, plain. -/
theorem splits_plain {l : List Tok} {p : Int} {i : Nat} {y : Tok} (hl : (houseCheck l).2 = 0) (hp : 0 ≤ p ∧ p ≤ l.length) (hy : l[i]? = some y) (h1 : y.k = 1) (h : remapErr l (repl p p [shutT, y]) = 0) :
    (houseCheck (stepDo l (repl p p [shutT, y]))).2 = 0 ∧ (stepDo l (repl p p [shutT, y])).length = l.length + 2 ∧ (stepDo l (repl p p [shutT, y]))[p.toNat]? = some shutT ∧ (stepDo l (repl p p [shutT, y]))[p.toNat + 1]? = some y ∧
    remapErr (stepDo l (repl p p [shutT, y])) (repl p (p + 2) []) = 0 ∧ stepDo (stepDo l (repl p p [shutT, y])) (repl p (p + 2) []) = l ∧ textB (stepDo l (repl p p [shutT, y])) = textB l := by
  obtain ⟨d1, d2, d3, d4, d5⟩ := deletes_plain (t := [shutT, y]) hl hp h
  have hlt : (l.take p.toNat).length = p.toNat := by rw [List.length_take]; omega
  refine ⟨d1, d2, ?_, ?_, d4, d5, ?_⟩
  · rw [repl_do, List.append_assoc, List.getElem?_append_right (by omega), hlt, Nat.sub_self]
    rfl
  · rw [repl_do, List.append_assoc, List.getElem?_append_right (by omega), hlt, show p.toNat + 1 - p.toNat = 1 by omega]
    rfl
  · rw [repl_do, textB_app, textB_app, show ([shutT, y] : List Tok) = [shutT] ++ [y] from rfl, textB_app, textB_none (x := shutT) (by decide), textB_none (by omega), List.append_nil, List.append_nil, ← textB_app, List.take_append_drop]
end Go.Proofs.YteeindicpbcjaaaGreatDoor
namespace Go.Proofs.YteeindicpbcjaaaGreatDoor
open Go.RowKit
set_option linter.unusedVariables false
set_option linter.unusedSimpArgs false

/-- One that moves what stands in a gap. -/
def arnd (a b g h ins : Int) (sl : List Tok) : StepD := ⟨1, a, b, g, h, ins, sl, 0⟩
theorem arnd_do (l sl : List Tok) (a b g h ins : Int) : stepDo l (arnd a b g h ins sl) = l.take a.toNat ++ sl.take ins.toNat ++ (l.take h.toNat).drop g.toNat ++ sl.drop ins.toNat ++ l.drop b.toNat := by
  unfold stepDo arnd
  rw [if_neg (show ¬ ((1 : Int) = 0) by decide), if_pos rfl]
theorem arnd_ok {a b g h ins : Int} {sl : List Tok} : (arnd a b g h ins sl).ok ↔ 0 ≤ a ∧ a ≤ g ∧ g < h ∧ h ≤ b ∧ b ≤ 2048 ∧ 0 ≤ ins ∧ ins ≤ sl.length ∧ ∀ x ∈ sl, rightB x = true := by
  unfold StepD.ok StepD.kindOk arnd
  constructor
  · rintro ⟨h1, h2, h3, h4, h5⟩
    simp only at h1 h2 h3 h4 h5
    rcases h4 with h4 | h4 | h4
    · exact ⟨h1, h4.2.1, h4.2.2.1, h4.2.2.2.1, h3, h4.2.2.2.2.1, h4.2.2.2.2.2.1, h5⟩
    · exact absurd h4.1 (by decide)
    · exact absurd h4.1 (by decide)
  · rintro ⟨h1, h2, h3, h4, h5, h6, h7, h8⟩
    exact ⟨h1, by simp only; omega, h5, .inl ⟨rfl, h2, h3, h4, h6, h7, rfl⟩, h8⟩

/-! ### Partners -/
theorem pt_at : ∀ (L : List Tok) (j : Nat) (d : Int) (k : Nat), ptGo j d L = some k → j ≤ k ∧ k < j + L.length ∧ ∃ x, L[k - j]? = some x ∧ x.k = 2 := by
  intro L
  induction L with
  | nil => intro j d k h; cases h
  | cons x r ih =>
    intro j d k h
    rw [ptGo] at h
    split at h
    · obtain ⟨h1, h2, y, h3, h4⟩ := ih _ _ _ h
      refine ⟨by omega, by simp; omega, y, ?_, h4⟩
      rw [show k - j = (k - (j + 1)) + 1 by omega, List.getElem?_cons_succ]
      exact h3
    · split at h
      · rename_i h2
        split at h
        · simp only [Option.some.injEq] at h
          subst h
          exact ⟨Nat.le_refl _, by simp, x, by simp, h2⟩
        · obtain ⟨h1, h2, y, h3, h4⟩ := ih _ _ _ h
          refine ⟨by omega, by simp; omega, y, ?_, h4⟩
          rw [show k - j = (k - (j + 1)) + 1 by omega, List.getElem?_cons_succ]
          exact h3
      · obtain ⟨h1, h2, y, h3, h4⟩ := ih _ _ _ h
        refine ⟨by omega, by simp; omega, y, ?_, h4⟩
        rw [show k - j = (k - (j + 1)) + 1 by omega, List.getElem?_cons_succ]
        exact h3
/-- What stands behind the partner plays no part; one level deeper all is passed. -/
theorem pt_local : ∀ (L : List Tok) (j : Nat) (d : Int) (k : Nat), ptGo j d L = some k → ∀ M, ptGo j d (L.take (k + 1 - j) ++ M) = some k := by
  intro L
  induction L with
  | nil => intro j d k h; cases h
  | cons x r ih =>
    intro j d k h M
    have hle := (pt_at _ _ _ _ h).1
    rw [show k + 1 - j = (k - j) + 1 by omega, List.take_succ_cons, List.cons_append]
    rw [ptGo] at h ⊢
    split at h
    · rename_i h1
      have := (pt_at _ _ _ _ h).1
      rw [if_pos h1, show k - j = k + 1 - (j + 1) by omega]
      exact ih _ _ _ h M
    · rename_i h1
      rw [if_neg h1]
      split at h
      · rename_i h2
        rw [if_pos h2]
        split at h
        · rename_i h3
          rw [if_pos h3]
          exact h
        · rename_i h3
          have := (pt_at _ _ _ _ h).1
          rw [if_neg h3, show k - j = k + 1 - (j + 1) by omega]
          exact ih _ _ _ h M
      · rename_i h2
        have := (pt_at _ _ _ _ h).1
        rw [if_neg h2, show k - j = k + 1 - (j + 1) by omega]
        exact ih _ _ _ h M
theorem pt_deep : ∀ (L : List Tok) (j : Nat) (d : Int) (k : Nat), 1 ≤ d → ptGo j d L = some k → ∀ (i : Nat) (M : List Tok), ptGo i (d + 1) (L.take (k + 1 - j) ++ M) = ptGo (i + (k + 1 - j)) 1 M := by
  intro L
  induction L with
  | nil => intro j d k _ h; cases h
  | cons x r ih =>
    intro j d k hd h i M
    have hle := (pt_at _ _ _ _ h).1
    rw [show k + 1 - j = (k - j) + 1 by omega, List.take_succ_cons, List.cons_append]
    rw [ptGo] at h ⊢
    split at h
    · rename_i h1
      have := (pt_at _ _ _ _ h).1
      rw [if_pos h1, show k - j = k + 1 - (j + 1) by omega, ih _ _ _ (by omega) h (i + 1) M]
      congr 1
      omega
    · rename_i h1
      rw [if_neg h1]
      split at h
      · rename_i h2
        rw [if_pos h2, if_neg (by omega)]
        split at h
        · rename_i h3
          simp only [Option.some.injEq] at h
          subst h
          rw [Nat.sub_self, List.take_zero, List.nil_append, show d + 1 - 1 = 1 by omega]
        · rename_i h3
          have := (pt_at _ _ _ _ h).1
          rw [show k - j = k + 1 - (j + 1) by omega, show d + 1 - 1 = (d - 1) + 1 by omega, ih _ _ _ (by omega) h (i + 1) M]
          congr 1
          omega
      · rename_i h2
        have := (pt_at _ _ _ _ h).1
        rw [if_neg h2, show k - j = k + 1 - (j + 1) by omega, ih _ _ _ hd h (i + 1) M]
        congr 1
        omega
theorem pt_shift : ∀ (L : List Tok) (j i : Nat) (d : Int) (k : Nat), ptGo j d L = some k → ptGo i d L = some (i + (k - j)) := by
  intro L
  induction L with
  | nil => intro j i d k h; cases h
  | cons x r ih =>
    intro j i d k h
    rw [ptGo] at h ⊢
    split at h
    · rename_i h1
      have := (pt_at _ _ _ _ h).1
      rw [if_pos h1, ih _ (i + 1) _ _ h]
      congr 1; omega
    · rename_i h1
      rw [if_neg h1]
      split at h
      · rename_i h2
        rw [if_pos h2]
        split at h
        · rename_i h3
          simp only [Option.some.injEq] at h
          subst h
          rw [if_pos h3]
          congr 1; omega
        · rename_i h3
          have := (pt_at _ _ _ _ h).1
          rw [if_neg h3, ih _ (i + 1) _ _ h]
          congr 1; omega
      · rename_i h2
        have := (pt_at _ _ _ _ h).1
        rw [if_neg h2, ih _ (i + 1) _ _ h]
        congr 1; omega
theorem stkGo_app : ∀ (a b : List Tok) (k : Nat) (s : List Int), stkGo k (a ++ b) s = stkGo (k + a.length) b (stkGo k a s) := by
  intro a
  induction a with
  | nil => intro b k s; rfl
  | cons x r ih =>
    intro b k s
    rw [List.cons_append, stkGo, stkGo, ih]
    congr 1
    simp; omega
theorem stack_at {l : List Tok} {n : Nat} (hn : n ≤ l.length) : stackL l (n : Int) = stkGo 0 (l.take n) [] := by
  unfold stackL
  rw [if_neg (by omega), show (max (n : Int) 0).toNat = n by omega]
theorem around_at {l : List Tok} {n : Nat} (hn : n ≤ l.length) : aroundL l (n : Int) = (stkGo 0 (l.take n) []).getLast?.getD (-1) := by
  unfold aroundL
  rw [stack_at hn]

/-- What EditWraps says, plain. -/
theorem wraps_plain {l : List Tok} {p k : Nat} {y : Tok} (q : Tok) (hq : q.k = 1) (hl : (houseCheck l).2 = 0) (hy : l[p]? = some y) (h1 : y.k = 1) (hk : ptGo 0 0 (l.drop p) = some k)
    {x : List Tok} (hx : x = stepDo l (arnd p (p + k + 1) p (p + k + 1) 1 [q, shutT])) (h : remapErr l (arnd p (p + k + 1) p (p + k + 1) 1 [q, shutT]) = 0) :
    (houseCheck x).2 = 0 ∧ x.length = l.length + 2 ∧ x[p]? = some q ∧ x[p + 1]? = some y ∧ p + 3 ≤ x.length ∧ aroundL x ((p : Int) + 2) = (p : Int) + 1 ∧ aroundL x ((p : Int) + 1) = (p : Int) ∧ partL x (p + 1) = (p : Int) + k + 1 ∧ partL x p = (p : Int) + k + 2 ∧
    remapErr x (arnd p (p + k + 3) (p + 1) (p + k + 2) 0 []) = 0 ∧ stepDo x (arnd p (p + k + 3) (p + 1) (p + k + 2) 0 []) = l := by
  obtain ⟨r1, r2, r3, r4⟩ := remap_zero.1 h
  rw [← hx] at r4
  obtain ⟨hlt, hye⟩ := List.getElem?_eq_some_iff.1 hy
  have hp := pt_at _ _ _ _ hk
  rw [List.length_drop] at hp
  obtain ⟨seg, hseg⟩ : ∃ seg, seg = (l.drop p).take (k + 1) := ⟨_, rfl⟩
  have hsl : seg.length = k + 1 := by rw [hseg, List.length_take, List.length_drop]; omega
  have hparts : l = l.take p ++ seg ++ l.drop (p + k + 1) := by
    rw [hseg, List.append_assoc, show p + k + 1 = p + (k + 1) by omega, ← List.drop_drop, List.take_append_drop, List.take_append_drop]
  have hxe : x = l.take p ++ ([q] ++ (seg ++ ([shutT] ++ l.drop (p + k + 1)))) := by
    rw [hx, arnd_do]
    rw [show ((p : Int)).toNat = p by omega, show ((p : Int) + k + 1).toNat = p + k + 1 by omega, show (1 : Int).toNat = 1 by rfl]
    rw [show (l.take (p + k + 1)).drop p = seg by rw [hseg, List.drop_take]; congr 1; omega]
    simp
  have hlp : (l.take p).length = p := by rw [List.length_take]; omega
  have hxl : x.length = l.length + 2 := by
    rw [hxe]
    simp only [List.length_append, hlp, hsl, List.length_drop, List.length_singleton]
    omega
  have hsy : ∃ r, seg = y :: r := by
    rw [hseg, drop_cons hy]
    exact ⟨_, List.take_succ_cons⟩
  obtain ⟨sr, hsr⟩ := hsy
  have hd1 : x.drop (p + 1) = seg ++ ([shutT] ++ l.drop (p + k + 1)) := by
    rw [hxe, ← List.append_assoc, List.drop_left' (by simp [hlp])]
  have hd0 : x.drop p = q :: (seg ++ ([shutT] ++ l.drop (p + k + 1))) := by
    rw [hxe, List.drop_left' hlp]
    rfl
  have hxp1 : x[p + 1]? = some y := by
    rw [← Nat.add_zero (p + 1), ← List.getElem?_drop, hd1, hsr]
    rfl
  have hxp : x[p]? = some q := by
    rw [← Nat.add_zero p, ← List.getElem?_drop, hd0]
    rfl
  have ht1 : x.take (p + 1) = l.take p ++ [q] := by
    rw [hxe, ← List.append_assoc, List.take_left' (by simp [hlp])]
  have ht2 : x.take (p + 2) = l.take p ++ [q] ++ [y] := by
    rw [show p + 2 = (p + 1) + 1 by omega, List.take_add_one, ht1, hxp1]
    rfl
  have hdo : stepDo x (arnd p (p + k + 3) (p + 1) (p + k + 2) 0 []) = l := by
    rw [arnd_do]
    rw [show ((p : Int)).toNat = p by omega, show ((p : Int) + k + 3).toNat = p + k + 3 by omega, show ((p : Int) + 1).toNat = p + 1 by omega, show ((p : Int) + k + 2).toNat = p + k + 2 by omega]
    have e1 : x.take p = l.take p := by rw [hxe, List.take_left' hlp]
    have e2 : (x.take (p + k + 2)).drop (p + 1) = seg := by
      rw [List.drop_take, hd1, show p + k + 2 - (p + 1) = k + 1 by omega, List.take_left' hsl]
    have e3 : x.drop (p + k + 3) = l.drop (p + k + 1) := by
      rw [show p + k + 3 = (p + 1) + (k + 2) by omega, ← List.drop_drop, hd1, ← List.append_assoc, List.drop_left' (by simp [hsl])]
    rw [e1, e2, e3]
    simp only [List.take_nil, List.drop_nil, List.append_nil]
    exact hparts.symm
  have hxle := house_len_le r4
  have hseg1 : ptGo 1 1 sr = some (k - 0) ∨ True := .inr trivial
  have hkk : ptGo 0 0 (seg ++ ([shutT] ++ l.drop (p + k + 1))) = some k := by
    have := pt_local _ _ _ _ hk ([shutT] ++ l.drop (p + k + 1))
    rw [show k + 1 - 0 = k + 1 by omega, ← hseg] at this
    exact this
  refine ⟨r4, hxl, hxp, hxp1, by omega, ?_, ?_, ?_, ?_, ?_, hdo⟩
  · rw [show ((p : Int) + 2) = ((p + 2 : Nat) : Int) by omega, around_at (by omega), ht2, stkGo_app, stkGo_app]
    simp only [stkGo, stkStep, if_pos hq, if_pos h1]
    rw [List.getLast?_append]
    simp [hlp]
  · rw [show ((p : Int) + 1) = ((p + 1 : Nat) : Int) by omega, around_at (by omega), ht1, stkGo_app]
    simp only [stkGo, stkStep, if_pos hq]
    rw [List.getLast?_append]
    simp [hlp]
  · unfold partL
    rw [hd1, hkk]
    simp only
    omega
  · unfold partL
    rw [hd0, ptGo, if_pos hq]
    have hk2 : ptGo 1 1 sr = some (1 + (k - 1)) ∧ 1 ≤ k := by
      have h9 := hk
      rw [drop_cons hy, ptGo, if_pos h1] at h9
      have h10 := (pt_at _ _ _ _ h9).1
      have h11 := pt_local _ _ _ _ h9 []
      have h12 : (l.drop (p + 1)).take (k + 1 - (0 + 1)) = sr := by
        have h13 := hseg
        rw [hsr, drop_cons hy, List.take_succ_cons] at h13
        simp only [List.cons.injEq, true_and] at h13
        rw [h13]
        congr 1
      rw [h12, List.append_nil] at h11
      refine ⟨?_, by omega⟩
      have h14 : ptGo (0 + 1) (0 + 1) sr = some k := h11
      rw [show (1 + (k - 1)) = k by omega]
      exact h14
    have h5 := pt_deep sr 1 1 (1 + (k - 1)) (by decide) hk2.1 2 ([shutT] ++ l.drop (p + k + 1))
    have hsrl : sr.length = k := by
      have := hsl
      rw [hsr] at this
      simpa using this
    rw [show 1 + (k - 1) + 1 - 1 = k by omega, List.take_of_length_le (by omega)] at h5
    rw [hsr, List.cons_append, ptGo, if_pos h1]
    rw [show (0 : Nat) + 1 + 1 = 2 by rfl, show ((0 : Int) + 1 + 1) = 1 + 1 by rfl, h5, List.singleton_append, ptGo, if_neg (by decide), if_pos rfl, if_pos (by decide)]
    simp only
    omega
  · refine remap_zero.2 ⟨flat_of_house r4, step_check_zero.2 ⟨by simp [arnd], arnd_ok.2 ⟨by omega, by omega, by omega, by omega, by omega, by omega, by simp, fun z hz => by cases hz⟩⟩, ?_, by rw [hdo]; exact hl⟩
    show ((p : Int) + k + 3) ≤ _
    omega

/-! ### Lifted -/
theorem part_some {l : List Tok} {i : Nat} {e : Int} (h : partL l i = e) (he : 0 ≤ e) : ∃ k : Nat, e = (i : Int) + k ∧ ptGo 0 0 (l.drop i) = some k ∧ i + k < l.length ∧ ∃ x, l[i + k]? = some x ∧ x.k = 2 := by
  unfold partL at h
  cases hp : ptGo 0 0 (l.drop i) with
  | none => rw [hp] at h; simp only at h; omega
  | some k =>
    rw [hp] at h
    obtain ⟨h1, h2, x, h3, h4⟩ := pt_at _ _ _ _ hp
    rw [List.length_drop] at h2
    refine ⟨k, h.symm, rfl, by omega, x, ?_, h4⟩
    rw [Nat.sub_zero, List.getElem?_drop] at h3
    exact h3
/-- The step that lifts what begins at b out of what begins at q. -/
def liftS (l : List Tok) (b q : Nat) (y : Tok) : StepD :=
  arnd (if (b : Int) = q + 1 then (q : Int) else b) (if partL l b + 1 = partL l q then partL l q + 1 else partL l b + 1) b (partL l b + 1) (if (b : Int) = q + 1 then 0 else 1)
    ((if (b : Int) = q + 1 then [] else [shutT]) ++ (if partL l b + 1 = partL l q then [] else [y]))
/-- What EditLifts says, plain. -/
theorem lifts_plain {l : List Tok} {b q : Nat} {z y : Tok} (hz : l[b]? = some z) (hz1 : z.k = 1) (hy : l[q]? = some y) (hy1 : y.k = 1) (hqb : aroundL l b = (q : Int)) (h : remapErr l (liftS l b q y) = 0) :
    ∃ dest : Nat, (dest : Int) = (liftS l b q y).fr + (liftS l b q y).ins ∧ dest < (stepDo l (liftS l b q y)).length ∧ (stepDo l (liftS l b q y))[dest]? = some z ∧ textB (stepDo l (liftS l b q y)) = textB l ∧
      (stackL (stepDo l (liftS l b q y)) (dest : Int)).length + 1 = (stackL l (b : Int)).length := by
  obtain ⟨r1, r2, r3, r4⟩ := remap_zero.1 h
  obtain ⟨_, ok⟩ := step_check_zero.1 r2
  obtain ⟨o1, o2, o3, o4, o5, o6, o7, o8⟩ := arnd_ok.1 ok
  obtain ⟨kb, hkb, hpb, hbl, _⟩ := part_some (l := l) (i := b) rfl (by omega)
  obtain ⟨hbl2, hze⟩ := List.getElem?_eq_some_iff.1 hz
  obtain ⟨hql2, hye⟩ := List.getElem?_eq_some_iff.1 hy
  obtain ⟨seg, hseg⟩ : ∃ seg, seg = (l.drop b).take (kb + 1) := ⟨_, rfl⟩
  have hsl : seg.length = kb + 1 := by rw [hseg, List.length_take, List.length_drop]; omega
  have hgap : (l.take (partL l b + 1).toNat).drop b = seg := by
    rw [hkb, hseg, List.drop_take]
    congr 1
    omega
  have hparts : l = l.take b ++ (seg ++ l.drop (b + kb + 1)) := by
    rw [hseg, show b + kb + 1 = b + (kb + 1) by omega, ← List.drop_drop, List.take_append_drop, List.take_append_drop]
  have hsh : ∃ sr, seg = z :: sr := by
    rw [hseg, drop_cons hz]
    exact ⟨_, List.take_succ_cons⟩
  obtain ⟨sr, hsr⟩ := hsh
  have hlb : (l.take b).length = b := by rw [List.length_take]; omega
  have hqlt : q < b := by
    obtain ⟨i', _, e1, _, _, e4⟩ := around_open (l := l) (p := (b : Int)) (by rw [hqb]; omega)
    rw [hqb] at e1
    omega
  -- what stands behind
  have htail : ∃ T : List Tok, ∀ A : List Tok, ∀ ins : Nat, ins = (if (b : Int) = q + 1 then [] else [shutT] : List Tok).length → A ++ (((if (b : Int) = q + 1 then [] else [shutT]) ++ (if partL l b + 1 = partL l q then [] else [y]) : List Tok).drop ins ++ l.drop (if partL l b + 1 = partL l q then partL l q + 1 else partL l b + 1).toNat) = A ++ T ∧ textB T = textB (l.drop (b + kb + 1)) := by
    by_cases hlast : partL l b + 1 = partL l q
    · refine ⟨l.drop (b + kb + 2), fun A ins hins => ?_⟩
      rw [if_pos hlast, if_pos hlast, hins, List.append_nil, List.drop_length, List.nil_append, ← hlast, hkb, show ((b : Int) + kb + 1 + 1).toNat = b + kb + 2 by omega]
      refine ⟨rfl, ?_⟩
      obtain ⟨k2, hk2, _, hl2, x2, hx2, hx2k⟩ := part_some (l := l) (i := q) rfl (by omega)
      have : q + k2 = b + kb + 1 := by omega
      rw [this] at hx2
      rw [drop_cons hx2, show x2 :: l.drop (b + kb + 1 + 1) = [x2] ++ l.drop (b + kb + 1 + 1) from rfl, textB_app, textB_none (by omega), List.nil_append]
    · refine ⟨[y] ++ l.drop (b + kb + 1), fun A ins hins => ?_⟩
      rw [if_neg hlast, if_neg hlast, hins, List.drop_left, hkb, show ((b : Int) + kb + 1).toNat = b + kb + 1 by omega]
      exact ⟨rfl, by rw [textB_app, textB_none (by omega), List.nil_append]⟩
  obtain ⟨T, hT⟩ := htail
  have hsb : stackL l (b : Int) = stkGo 0 (l.take b) [] := stack_at (by omega)
  by_cases hfirst : (b : Int) = q + 1
  · have hb1 : b = q + 1 := by omega
    have hx : stepDo l (liftS l b q y) = l.take q ++ (seg ++ T) := by
      unfold liftS
      rw [arnd_do]
      have h9 := (hT (l.take q ++ seg) 0 (by rw [if_pos hfirst]; rfl)).1
      simp only [if_pos hfirst] at h9 ⊢
      rw [show ((b : Int)).toNat = b by omega, hgap, show ((q : Int)).toNat = q by omega, show (0 : Int).toNat = 0 from rfl, List.take_zero, List.append_nil, List.append_assoc (l.take q ++ seg), h9, List.append_assoc]
    have htx : textB T = textB (l.drop (b + kb + 1)) := (hT [] 0 (by rw [if_pos hfirst]; rfl)).2
    have hlq : (l.take q).length = q := by rw [List.length_take]; omega
    have htb : l.take b = l.take q ++ [y] := by rw [hb1, List.take_add_one, hy]; rfl
    have hlen : (l.take q ++ (seg ++ T)).length = q + (kb + 1 + T.length) := by simp only [List.length_append, hlq, hsl]
    refine ⟨q, ?_, ?_, ?_, ?_, ?_⟩
    · unfold liftS arnd
      simp only [if_pos hfirst]
      omega
    · rw [hx, hlen]; omega
    · rw [hx, List.getElem?_append_right (by omega), hlq, Nat.sub_self, hsr]
      rfl
    · rw [hx, textB_app, textB_app, htx]
      conv => rhs; rw [hparts, htb]
      rw [textB_app, textB_app, textB_app, textB_none (x := y) (by omega), List.append_nil]
    · rw [hx, stack_at (by rw [hlen]; omega), List.take_left' hlq, hsb, htb, stkGo_app]
      simp only [stkGo, stkStep, if_pos hy1]
      rw [List.length_append]
      rfl
  · have hx : stepDo l (liftS l b q y) = l.take b ++ [shutT] ++ (seg ++ T) := by
      unfold liftS
      rw [arnd_do]
      have h9 := (hT (l.take b ++ [shutT] ++ seg) 1 (by rw [if_neg hfirst]; rfl)).1
      simp only [if_neg hfirst] at h9 ⊢
      rw [show ((b : Int)).toNat = b by omega, hgap, show (1 : Int).toNat = 1 from rfl]
      rw [show (([shutT] ++ (if partL l b + 1 = partL l q then [] else [y])).take 1 : List Tok) = [shutT] from rfl]
      rw [List.append_assoc (l.take b ++ [shutT] ++ seg), h9, List.append_assoc]
    have htx : textB T = textB (l.drop (b + kb + 1)) := (hT [] 1 (by rw [if_neg hfirst]; rfl)).2
    have hls : (l.take b ++ [shutT]).length = b + 1 := by simp [hlb]
    have hlen : (l.take b ++ [shutT] ++ (seg ++ T)).length = (b + 1) + (kb + 1 + T.length) := by simp only [List.length_append, hlb, hsl, List.length_singleton]
    refine ⟨b + 1, ?_, ?_, ?_, ?_, ?_⟩
    · unfold liftS arnd
      simp only [if_neg hfirst]
      omega
    · rw [hx, hlen]; omega
    · rw [hx, List.getElem?_append_right (by omega), hls, Nat.sub_self, hsr]
      rfl
    · rw [hx, textB_app, textB_app, textB_app, htx, textB_none (x := shutT) (by decide), List.append_nil]
      conv => rhs; rw [hparts]
      rw [textB_app, textB_app]
    · rw [hx, stack_at (by rw [hlen]; omega), List.take_left' hls, hsb, stkGo_app]
      simp only [stkGo, stkStep, if_neg (show ¬ (shutT.k = 1) by decide), if_true]
      rw [List.length_dropLast]
      have : stkGo 0 (l.take b) [] ≠ [] := by
        intro e
        rw [around_at (by omega), e] at hqb
        simp at hqb
      have := List.length_pos_iff.2 this
      omega
end Go.Proofs.YteeindicpbcjaaaGreatDoor
