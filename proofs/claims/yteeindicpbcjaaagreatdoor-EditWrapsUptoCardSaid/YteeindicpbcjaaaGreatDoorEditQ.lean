/- Commands, plain: around and out again; lifted. -/
import Derived.Test.YteeindicpbcjaaaGreatDoorEditP
namespace Go.Proofs.YteeindicpbcjaaaGreatDoor
open Go.RowKit
set_option linter.unusedVariables false
set_option linter.unusedSimpArgs false

/-- One that moves what stands in a gap. -/
def arnd (a b g h ins : Int) (sl : List Tok) : StepD := ⟨1, a, b, g, h, ins, sl, 0⟩
theorem arnd_do (l sl : List Tok) (a b g h ins : Int) : stepDo l (arnd a b g h ins sl) = l.take a.toNat ++ sl.take ins.toNat ++ (l.take h.toNat).drop g.toNat ++ sl.drop ins.toNat ++ l.drop b.toNat := by
  unfold stepDo arnd
  rw [if_neg (show ¬ ((1 : Int) = 0) by decide), if_pos rfl]
theorem arnd_ok {a b g h ins : Int} {sl : List Tok} : (arnd a b g h ins sl).ok ↔ 0 ≤ a ∧ a ≤ g ∧ g < h ∧ h ≤ b ∧ b ≤ 2048 ∧ 0 ≤ ins ∧ ins ≤ sl.length ∧ ∀ x ∈ sl, rightB x = true := by
  unfold StepD.ok StepD.kindOk arnd
  constructor
  · rintro ⟨h1, h2, h3, h4, h5⟩
    simp only at h1 h2 h3 h4 h5
    rcases h4 with h4 | h4 | h4
    · exact ⟨h1, h4.2.1, h4.2.2.1, h4.2.2.2.1, h3, h4.2.2.2.2.1, h4.2.2.2.2.2.1, h5⟩
    · exact absurd h4.1 (by decide)
    · exact absurd h4.1 (by decide)
  · rintro ⟨h1, h2, h3, h4, h5, h6, h7, h8⟩
    exact ⟨h1, by simp only; omega, h5, .inl ⟨rfl, h2, h3, h4, h6, h7, rfl⟩, h8⟩

/-! ### Partners -/
theorem pt_at : ∀ (L : List Tok) (j : Nat) (d : Int) (k : Nat), ptGo j d L = some k → j ≤ k ∧ k < j + L.length ∧ ∃ x, L[k - j]? = some x ∧ x.k = 2 := by
  intro L
  induction L with
  | nil => intro j d k h; cases h
  | cons x r ih =>
    intro j d k h
    rw [ptGo] at h
    split at h
    · obtain ⟨h1, h2, y, h3, h4⟩ := ih _ _ _ h
      refine ⟨by omega, by simp; omega, y, ?_, h4⟩
      rw [show k - j = (k - (j + 1)) + 1 by omega, List.getElem?_cons_succ]
      exact h3
    · split at h
      · rename_i h2
        split at h
        · simp only [Option.some.injEq] at h
          subst h
          exact ⟨Nat.le_refl _, by simp, x, by simp, h2⟩
        · obtain ⟨h1, h2, y, h3, h4⟩ := ih _ _ _ h
          refine ⟨by omega, by simp; omega, y, ?_, h4⟩
          rw [show k - j = (k - (j + 1)) + 1 by omega, List.getElem?_cons_succ]
          exact h3
      · obtain ⟨h1, h2, y, h3, h4⟩ := ih _ _ _ h
        refine ⟨by omega, by simp; omega, y, ?_, h4⟩
        rw [show k - j = (k - (j + 1)) + 1 by omega, List.getElem?_cons_succ]
        exact h3
/-- What stands behind the partner plays no part; one level deeper all is passed. -/
theorem pt_local : ∀ (L : List Tok) (j : Nat) (d : Int) (k : Nat), ptGo j d L = some k → ∀ M, ptGo j d (L.take (k + 1 - j) ++ M) = some k := by
  intro L
  induction L with
  | nil => intro j d k h; cases h
  | cons x r ih =>
    intro j d k h M
    have hle := (pt_at _ _ _ _ h).1
    rw [show k + 1 - j = (k - j) + 1 by omega, List.take_succ_cons, List.cons_append]
    rw [ptGo] at h ⊢
    split at h
    · rename_i h1
      have := (pt_at _ _ _ _ h).1
      rw [if_pos h1, show k - j = k + 1 - (j + 1) by omega]
      exact ih _ _ _ h M
    · rename_i h1
      rw [if_neg h1]
      split at h
      · rename_i h2
        rw [if_pos h2]
        split at h
        · rename_i h3
          rw [if_pos h3]
          exact h
        · rename_i h3
          have := (pt_at _ _ _ _ h).1
          rw [if_neg h3, show k - j = k + 1 - (j + 1) by omega]
          exact ih _ _ _ h M
      · rename_i h2
        have := (pt_at _ _ _ _ h).1
        rw [if_neg h2, show k - j = k + 1 - (j + 1) by omega]
        exact ih _ _ _ h M
theorem pt_deep : ∀ (L : List Tok) (j : Nat) (d : Int) (k : Nat), 1 ≤ d → ptGo j d L = some k → ∀ (i : Nat) (M : List Tok), ptGo i (d + 1) (L.take (k + 1 - j) ++ M) = ptGo (i + (k + 1 - j)) 1 M := by
  intro L
  induction L with
  | nil => intro j d k _ h; cases h
  | cons x r ih =>
    intro j d k hd h i M
    have hle := (pt_at _ _ _ _ h).1
    rw [show k + 1 - j = (k - j) + 1 by omega, List.take_succ_cons, List.cons_append]
    rw [ptGo] at h ⊢
    split at h
    · rename_i h1
      have := (pt_at _ _ _ _ h).1
      rw [if_pos h1, show k - j = k + 1 - (j + 1) by omega, ih _ _ _ (by omega) h (i + 1) M]
      congr 1
      omega
    · rename_i h1
      rw [if_neg h1]
      split at h
      · rename_i h2
        rw [if_pos h2, if_neg (by omega)]
        split at h
        · rename_i h3
          simp only [Option.some.injEq] at h
          subst h
          rw [Nat.sub_self, List.take_zero, List.nil_append, show d + 1 - 1 = 1 by omega]
        · rename_i h3
          have := (pt_at _ _ _ _ h).1
          rw [show k - j = k + 1 - (j + 1) by omega, show d + 1 - 1 = (d - 1) + 1 by omega, ih _ _ _ (by omega) h (i + 1) M]
          congr 1
          omega
      · rename_i h2
        have := (pt_at _ _ _ _ h).1
        rw [if_neg h2, show k - j = k + 1 - (j + 1) by omega, ih _ _ _ hd h (i + 1) M]
        congr 1
        omega
theorem pt_shift : ∀ (L : List Tok) (j i : Nat) (d : Int) (k : Nat), ptGo j d L = some k → ptGo i d L = some (i + (k - j)) := by
  intro L
  induction L with
  | nil => intro j i d k h; cases h
  | cons x r ih =>
    intro j i d k h
    rw [ptGo] at h ⊢
    split at h
    · rename_i h1
      have := (pt_at _ _ _ _ h).1
      rw [if_pos h1, ih _ (i + 1) _ _ h]
      congr 1; omega
    · rename_i h1
      rw [if_neg h1]
      split at h
      · rename_i h2
        rw [if_pos h2]
        split at h
        · rename_i h3
          simp only [Option.some.injEq] at h
          subst h
          rw [if_pos h3]
          congr 1; omega
        · rename_i h3
          have := (pt_at _ _ _ _ h).1
          rw [if_neg h3, ih _ (i + 1) _ _ h]
          congr 1; omega
      · rename_i h2
        have := (pt_at _ _ _ _ h).1
        rw [if_neg h2, ih _ (i + 1) _ _ h]
        congr 1; omega
theorem stkGo_app : ∀ (a b : List Tok) (k : Nat) (s : List Int), stkGo k (a ++ b) s = stkGo (k + a.length) b (stkGo k a s) := by
  intro a
  induction a with
  | nil => intro b k s; rfl
  | cons x r ih =>
    intro b k s
    rw [List.cons_append, stkGo, stkGo, ih]
    congr 1
    simp; omega
theorem stack_at {l : List Tok} {n : Nat} (hn : n ≤ l.length) : stackL l (n : Int) = stkGo 0 (l.take n) [] := by
  unfold stackL
  rw [if_neg (by omega), show (max (n : Int) 0).toNat = n by omega]
theorem around_at {l : List Tok} {n : Nat} (hn : n ≤ l.length) : aroundL l (n : Int) = (stkGo 0 (l.take n) []).getLast?.getD (-1) := by
  unfold aroundL
  rw [stack_at hn]

/-- What EditWraps says, plain. -/
theorem wraps_plain {l : List Tok} {p k : Nat} {y : Tok} (q : Tok) (hq : q.k = 1) (hl : (houseCheck l).2 = 0) (hy : l[p]? = some y) (h1 : y.k = 1) (hk : ptGo 0 0 (l.drop p) = some k)
    {x : List Tok} (hx : x = stepDo l (arnd p (p + k + 1) p (p + k + 1) 1 [q, shutT])) (h : remapErr l (arnd p (p + k + 1) p (p + k + 1) 1 [q, shutT]) = 0) :
    (houseCheck x).2 = 0 ∧ x.length = l.length + 2 ∧ x[p]? = some q ∧ x[p + 1]? = some y ∧ p + 3 ≤ x.length ∧ aroundL x ((p : Int) + 2) = (p : Int) + 1 ∧ aroundL x ((p : Int) + 1) = (p : Int) ∧ partL x (p + 1) = (p : Int) + k + 1 ∧ partL x p = (p : Int) + k + 2 ∧
    remapErr x (arnd p (p + k + 3) (p + 1) (p + k + 2) 0 []) = 0 ∧ stepDo x (arnd p (p + k + 3) (p + 1) (p + k + 2) 0 []) = l := by
  obtain ⟨r1, r2, r3, r4⟩ := remap_zero.1 h
  rw [← hx] at r4
  obtain ⟨hlt, hye⟩ := List.getElem?_eq_some_iff.1 hy
  have hp := pt_at _ _ _ _ hk
  rw [List.length_drop] at hp
  obtain ⟨seg, hseg⟩ : ∃ seg, seg = (l.drop p).take (k + 1) := ⟨_, rfl⟩
  have hsl : seg.length = k + 1 := by rw [hseg, List.length_take, List.length_drop]; omega
  have hparts : l = l.take p ++ seg ++ l.drop (p + k + 1) := by
    rw [hseg, List.append_assoc, show p + k + 1 = p + (k + 1) by omega, ← List.drop_drop, List.take_append_drop, List.take_append_drop]
  have hxe : x = l.take p ++ ([q] ++ (seg ++ ([shutT] ++ l.drop (p + k + 1)))) := by
    rw [hx, arnd_do]
    rw [show ((p : Int)).toNat = p by omega, show ((p : Int) + k + 1).toNat = p + k + 1 by omega, show (1 : Int).toNat = 1 by rfl]
    rw [show (l.take (p + k + 1)).drop p = seg by rw [hseg, List.drop_take]; congr 1; omega]
    simp
  have hlp : (l.take p).length = p := by rw [List.length_take]; omega
  have hxl : x.length = l.length + 2 := by
    rw [hxe]
    simp only [List.length_append, hlp, hsl, List.length_drop, List.length_singleton]
    omega
  have hsy : ∃ r, seg = y :: r := by
    rw [hseg, drop_cons hy]
    exact ⟨_, List.take_succ_cons⟩
  obtain ⟨sr, hsr⟩ := hsy
  have hd1 : x.drop (p + 1) = seg ++ ([shutT] ++ l.drop (p + k + 1)) := by
    rw [hxe, ← List.append_assoc, List.drop_left' (by simp [hlp])]
  have hd0 : x.drop p = q :: (seg ++ ([shutT] ++ l.drop (p + k + 1))) := by
    rw [hxe, List.drop_left' hlp]
    rfl
  have hxp1 : x[p + 1]? = some y := by
    rw [← Nat.add_zero (p + 1), ← List.getElem?_drop, hd1, hsr]
    rfl
  have hxp : x[p]? = some q := by
    rw [← Nat.add_zero p, ← List.getElem?_drop, hd0]
    rfl
  have ht1 : x.take (p + 1) = l.take p ++ [q] := by
    rw [hxe, ← List.append_assoc, List.take_left' (by simp [hlp])]
  have ht2 : x.take (p + 2) = l.take p ++ [q] ++ [y] := by
    rw [show p + 2 = (p + 1) + 1 by omega, List.take_add_one, ht1, hxp1]
    rfl
  have hdo : stepDo x (arnd p (p + k + 3) (p + 1) (p + k + 2) 0 []) = l := by
    rw [arnd_do]
    rw [show ((p : Int)).toNat = p by omega, show ((p : Int) + k + 3).toNat = p + k + 3 by omega, show ((p : Int) + 1).toNat = p + 1 by omega, show ((p : Int) + k + 2).toNat = p + k + 2 by omega]
    have e1 : x.take p = l.take p := by rw [hxe, List.take_left' hlp]
    have e2 : (x.take (p + k + 2)).drop (p + 1) = seg := by
      rw [List.drop_take, hd1, show p + k + 2 - (p + 1) = k + 1 by omega, List.take_left' hsl]
    have e3 : x.drop (p + k + 3) = l.drop (p + k + 1) := by
      rw [show p + k + 3 = (p + 1) + (k + 2) by omega, ← List.drop_drop, hd1, ← List.append_assoc, List.drop_left' (by simp [hsl])]
    rw [e1, e2, e3]
    simp only [List.take_nil, List.drop_nil, List.append_nil]
    exact hparts.symm
  have hxle := house_len_le r4
  have hseg1 : ptGo 1 1 sr = some (k - 0) ∨ True := .inr trivial
  have hkk : ptGo 0 0 (seg ++ ([shutT] ++ l.drop (p + k + 1))) = some k := by
    have := pt_local _ _ _ _ hk ([shutT] ++ l.drop (p + k + 1))
    rw [show k + 1 - 0 = k + 1 by omega, ← hseg] at this
    exact this
  refine ⟨r4, hxl, hxp, hxp1, by omega, ?_, ?_, ?_, ?_, ?_, hdo⟩
  · rw [show ((p : Int) + 2) = ((p + 2 : Nat) : Int) by omega, around_at (by omega), ht2, stkGo_app, stkGo_app]
    simp only [stkGo, stkStep, if_pos hq, if_pos h1]
    rw [List.getLast?_append]
    simp [hlp]
  · rw [show ((p : Int) + 1) = ((p + 1 : Nat) : Int) by omega, around_at (by omega), ht1, stkGo_app]
    simp only [stkGo, stkStep, if_pos hq]
    rw [List.getLast?_append]
    simp [hlp]
  · unfold partL
    rw [hd1, hkk]
    simp only
    omega
  · unfold partL
    rw [hd0, ptGo, if_pos hq]
    have hk2 : ptGo 1 1 sr = some (1 + (k - 1)) ∧ 1 ≤ k := by
      have h9 := hk
      rw [drop_cons hy, ptGo, if_pos h1] at h9
      have h10 := (pt_at _ _ _ _ h9).1
      have h11 := pt_local _ _ _ _ h9 []
      have h12 : (l.drop (p + 1)).take (k + 1 - (0 + 1)) = sr := by
        have h13 := hseg
        rw [hsr, drop_cons hy, List.take_succ_cons] at h13
        simp only [List.cons.injEq, true_and] at h13
        rw [h13]
        congr 1
      rw [h12, List.append_nil] at h11
      refine ⟨?_, by omega⟩
      have h14 : ptGo (0 + 1) (0 + 1) sr = some k := h11
      rw [show (1 + (k - 1)) = k by omega]
      exact h14
    have h5 := pt_deep sr 1 1 (1 + (k - 1)) (by decide) hk2.1 2 ([shutT] ++ l.drop (p + k + 1))
    have hsrl : sr.length = k := by
      have := hsl
      rw [hsr] at this
      simpa using this
    rw [show 1 + (k - 1) + 1 - 1 = k by omega, List.take_of_length_le (by omega)] at h5
    rw [hsr, List.cons_append, ptGo, if_pos h1]
    rw [show (0 : Nat) + 1 + 1 = 2 by rfl, show ((0 : Int) + 1 + 1) = 1 + 1 by rfl, h5, List.singleton_append, ptGo, if_neg (by decide), if_pos rfl, if_pos (by decide)]
    simp only
    omega
  · refine remap_zero.2 ⟨flat_of_house r4, step_check_zero.2 ⟨by simp [arnd], arnd_ok.2 ⟨by omega, by omega, by omega, by omega, by omega, by omega, by simp, fun z hz => by cases hz⟩⟩, ?_, by rw [hdo]; exact hl⟩
    show ((p : Int) + k + 3) ≤ _
    omega

/-! ### Lifted -/
theorem part_some {l : List Tok} {i : Nat} {e : Int} (h : partL l i = e) (he : 0 ≤ e) : ∃ k : Nat, e = (i : Int) + k ∧ ptGo 0 0 (l.drop i) = some k ∧ i + k < l.length ∧ ∃ x, l[i + k]? = some x ∧ x.k = 2 := by
  unfold partL at h
  cases hp : ptGo 0 0 (l.drop i) with
  | none => rw [hp] at h; simp only at h; omega
  | some k =>
    rw [hp] at h
    obtain ⟨h1, h2, x, h3, h4⟩ := pt_at _ _ _ _ hp
    rw [List.length_drop] at h2
    refine ⟨k, h.symm, rfl, by omega, x, ?_, h4⟩
    rw [Nat.sub_zero, List.getElem?_drop] at h3
    exact h3
/-- The step that lifts what begins at b out of what begins at q. -/
def liftS (l : List Tok) (b q : Nat) (y : Tok) : StepD :=
  arnd (if (b : Int) = q + 1 then (q : Int) else b) (if partL l b + 1 = partL l q then partL l q + 1 else partL l b + 1) b (partL l b + 1) (if (b : Int) = q + 1 then 0 else 1)
    ((if (b : Int) = q + 1 then [] else [shutT]) ++ (if partL l b + 1 = partL l q then [] else [y]))
/-- What EditLifts says, plain. -/
theorem lifts_plain {l : List Tok} {b q : Nat} {z y : Tok} (hz : l[b]? = some z) (hz1 : z.k = 1) (hy : l[q]? = some y) (hy1 : y.k = 1) (hqb : aroundL l b = (q : Int)) (h : remapErr l (liftS l b q y) = 0) :
    ∃ dest : Nat, (dest : Int) = (liftS l b q y).fr + (liftS l b q y).ins ∧ dest < (stepDo l (liftS l b q y)).length ∧ (stepDo l (liftS l b q y))[dest]? = some z ∧ textB (stepDo l (liftS l b q y)) = textB l ∧
      (stackL (stepDo l (liftS l b q y)) (dest : Int)).length + 1 = (stackL l (b : Int)).length := by
  obtain ⟨r1, r2, r3, r4⟩ := remap_zero.1 h
  obtain ⟨_, ok⟩ := step_check_zero.1 r2
  obtain ⟨o1, o2, o3, o4, o5, o6, o7, o8⟩ := arnd_ok.1 ok
  obtain ⟨kb, hkb, hpb, hbl, _⟩ := part_some (l := l) (i := b) rfl (by omega)
  obtain ⟨hbl2, hze⟩ := List.getElem?_eq_some_iff.1 hz
  obtain ⟨hql2, hye⟩ := List.getElem?_eq_some_iff.1 hy
  obtain ⟨seg, hseg⟩ : ∃ seg, seg = (l.drop b).take (kb + 1) := ⟨_, rfl⟩
  have hsl : seg.length = kb + 1 := by rw [hseg, List.length_take, List.length_drop]; omega
  have hgap : (l.take (partL l b + 1).toNat).drop b = seg := by
    rw [hkb, hseg, List.drop_take]
    congr 1
    omega
  have hparts : l = l.take b ++ (seg ++ l.drop (b + kb + 1)) := by
    rw [hseg, show b + kb + 1 = b + (kb + 1) by omega, ← List.drop_drop, List.take_append_drop, List.take_append_drop]
  have hsh : ∃ sr, seg = z :: sr := by
    rw [hseg, drop_cons hz]
    exact ⟨_, List.take_succ_cons⟩
  obtain ⟨sr, hsr⟩ := hsh
  have hlb : (l.take b).length = b := by rw [List.length_take]; omega
  have hqlt : q < b := by
    obtain ⟨i', _, e1, _, _, e4⟩ := around_open (l := l) (p := (b : Int)) (by rw [hqb]; omega)
    rw [hqb] at e1
    omega
  -- what stands behind
  have htail : ∃ T : List Tok, ∀ A : List Tok, ∀ ins : Nat, ins = (if (b : Int) = q + 1 then [] else [shutT] : List Tok).length → A ++ (((if (b : Int) = q + 1 then [] else [shutT]) ++ (if partL l b + 1 = partL l q then [] else [y]) : List Tok).drop ins ++ l.drop (if partL l b + 1 = partL l q then partL l q + 1 else partL l b + 1).toNat) = A ++ T ∧ textB T = textB (l.drop (b + kb + 1)) := by
    by_cases hlast : partL l b + 1 = partL l q
    · refine ⟨l.drop (b + kb + 2), fun A ins hins => ?_⟩
      rw [if_pos hlast, if_pos hlast, hins, List.append_nil, List.drop_length, List.nil_append, ← hlast, hkb, show ((b : Int) + kb + 1 + 1).toNat = b + kb + 2 by omega]
      refine ⟨rfl, ?_⟩
      obtain ⟨k2, hk2, _, hl2, x2, hx2, hx2k⟩ := part_some (l := l) (i := q) rfl (by omega)
      have : q + k2 = b + kb + 1 := by omega
      rw [this] at hx2
      rw [drop_cons hx2, show x2 :: l.drop (b + kb + 1 + 1) = [x2] ++ l.drop (b + kb + 1 + 1) from rfl, textB_app, textB_none (by omega), List.nil_append]
    · refine ⟨[y] ++ l.drop (b + kb + 1), fun A ins hins => ?_⟩
      rw [if_neg hlast, if_neg hlast, hins, List.drop_left, hkb, show ((b : Int) + kb + 1).toNat = b + kb + 1 by omega]
      exact ⟨rfl, by rw [textB_app, textB_none (by omega), List.nil_append]⟩
  obtain ⟨T, hT⟩ := htail
  have hsb : stackL l (b : Int) = stkGo 0 (l.take b) [] := stack_at (by omega)
  by_cases hfirst : (b : Int) = q + 1
  · have hb1 : b = q + 1 := by omega
    have hx : stepDo l (liftS l b q y) = l.take q ++ (seg ++ T) := by
      unfold liftS
      rw [arnd_do]
      have h9 := (hT (l.take q ++ seg) 0 (by rw [if_pos hfirst]; rfl)).1
      simp only [if_pos hfirst] at h9 ⊢
      rw [show ((b : Int)).toNat = b by omega, hgap, show ((q : Int)).toNat = q by omega, show (0 : Int).toNat = 0 from rfl, List.take_zero, List.append_nil, List.append_assoc (l.take q ++ seg), h9, List.append_assoc]
    have htx : textB T = textB (l.drop (b + kb + 1)) := (hT [] 0 (by rw [if_pos hfirst]; rfl)).2
    have hlq : (l.take q).length = q := by rw [List.length_take]; omega
    have htb : l.take b = l.take q ++ [y] := by rw [hb1, List.take_add_one, hy]; rfl
    have hlen : (l.take q ++ (seg ++ T)).length = q + (kb + 1 + T.length) := by simp only [List.length_append, hlq, hsl]
    refine ⟨q, ?_, ?_, ?_, ?_, ?_⟩
    · unfold liftS arnd
      simp only [if_pos hfirst]
      omega
    · rw [hx, hlen]; omega
    · rw [hx, List.getElem?_append_right (by omega), hlq, Nat.sub_self, hsr]
      rfl
    · rw [hx, textB_app, textB_app, htx]
      conv => rhs; rw [hparts, htb]
      rw [textB_app, textB_app, textB_app, textB_none (x := y) (by omega), List.append_nil]
    · rw [hx, stack_at (by rw [hlen]; omega), List.take_left' hlq, hsb, htb, stkGo_app]
      simp only [stkGo, stkStep, if_pos hy1]
      rw [List.length_append]
      rfl
  · have hx : stepDo l (liftS l b q y) = l.take b ++ [shutT] ++ (seg ++ T) := by
      unfold liftS
      rw [arnd_do]
      have h9 := (hT (l.take b ++ [shutT] ++ seg) 1 (by rw [if_neg hfirst]; rfl)).1
      simp only [if_neg hfirst] at h9 ⊢
      rw [show ((b : Int)).toNat = b by omega, hgap, show (1 : Int).toNat = 1 from rfl]
      rw [show (([shutT] ++ (if partL l b + 1 = partL l q then [] else [y])).take 1 : List Tok) = [shutT] from rfl]
      rw [List.append_assoc (l.take b ++ [shutT] ++ seg), h9, List.append_assoc]
    have htx : textB T = textB (l.drop (b + kb + 1)) := (hT [] 1 (by rw [if_neg hfirst]; rfl)).2
    have hls : (l.take b ++ [shutT]).length = b + 1 := by simp [hlb]
    have hlen : (l.take b ++ [shutT] ++ (seg ++ T)).length = (b + 1) + (kb + 1 + T.length) := by simp only [List.length_append, hlb, hsl, List.length_singleton]
    refine ⟨b + 1, ?_, ?_, ?_, ?_, ?_⟩
    · unfold liftS arnd
      simp only [if_neg hfirst]
      omega
    · rw [hx, hlen]; omega
    · rw [hx, List.getElem?_append_right (by omega), hls, Nat.sub_self, hsr]
      rfl
    · rw [hx, textB_app, textB_app, textB_app, htx, textB_none (x := shutT) (by decide), List.append_nil]
      conv => rhs; rw [hparts]
      rw [textB_app, textB_app]
    · rw [hx, stack_at (by rw [hlen]; omega), List.take_left' hls, hsb, stkGo_app]
      simp only [stkGo, stkStep, if_neg (show ¬ (shutT.k = 1) by decide), if_true]
      rw [List.length_dropLast]
      have : stkGo 0 (l.take b) [] ≠ [] := by
        intro e
        rw [around_at (by omega), e] at hqb
        simp at hqb
      have := List.length_pos_iff.2 this
      omega
end Go.Proofs.YteeindicpbcjaaaGreatDoor
