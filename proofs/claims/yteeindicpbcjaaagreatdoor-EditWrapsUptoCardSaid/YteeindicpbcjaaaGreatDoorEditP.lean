/- A document's text (plain). Commands, plain: another type, split and joined. -/
import Derived.Test.YteeindicpbcjaaaGreatDoorTokR
import Derived.Test.YteeindicpbcjaaaGreatDoorStepP
import Derived.Test.YteeindicpbcjaaaGreatDoorStack
import Derived.Lib.RuneBytes
import Derived.Laws.Shifts
import Derived.Laws.ShiftsVar
import Derived.Laws.BitsAll
import Derived.Laws.BitsLemmas
namespace Go.Proofs.YteeindicpbcjaaaGreatDoor
open Go.RowKit
set_option linter.unusedVariables false
set_option linter.unusedSimpArgs false

abbrev encB (r : Int) : List UInt8 := Lib.encodeRune r
/-- All code points, as bytes. -/
def textB (l : List Tok) : List UInt8 := (l.filter (fun t => decide (t.k = 0) && rightB t)).flatMap (fun t => encB t.n)
theorem textB_take {l : List Tok} {k : Nat} {x : Tok} (hx : l[k]? = some x) : textB (l.take (k + 1)) = textB (l.take k) ++ if (decide (x.k = 0) && rightB x) = true then encB x.n else [] := by
  unfold textB
  rw [List.take_add_one, hx, List.filter_append, List.flatMap_append]
  congr 1
  by_cases h : (decide (x.k = 0) && rightB x) = true <;> simp [List.filter, h]
theorem textB_len (l : List Tok) : (textB l).length ≤ 4 * l.length := by
  unfold textB
  induction l with
  | nil => simp
  | cons t r ih =>
    have h4 : (encB t.n).length ≤ 4 := by have := (Lib.encodeRuneZ_length t.n).2; simpa [Lib.encodeRune] using this
    by_cases h : (decide (t.k = 0) && rightB t) = true
    · rw [List.filter_cons_of_pos (p := fun t => decide (t.k = 0) && rightB t) h, List.flatMap_cons, List.length_append, List.length_cons]
      omega
    · rw [List.filter_cons_of_neg (p := fun t => decide (t.k = 0) && rightB t) h, List.length_cons]
      omega
theorem right_point {x : Tok} (h0 : x.k = 0) (h : rightB x = true) : 0 ≤ x.n ∧ x.n ≤ 1114111 ∧ (x.n < 55296 ∨ 57343 < x.n) := by
  have h := of_decide_eq_true h
  simp only [RightP, PointP] at h
  omega

end Go.Proofs.YteeindicpbcjaaaGreatDoor
namespace Go.Proofs.YteeindicpbcjaaaGreatDoor
open Go.RowKit
set_option linter.unusedVariables false
set_option linter.unusedSimpArgs false

/-! ### What is open -/
theorem stkGo_mem : ∀ (r : List Tok) (k : Nat) (s : List Int), ∀ p ∈ stkGo k r s, p ∈ s ∨ ∃ (j : Nat) (x : Tok), p = ((k + j : Nat) : Int) ∧ r[j]? = some x ∧ x.k = 1 := by
  intro r
  induction r with
  | nil => intro k s p hp; exact .inl hp
  | cons x r ih =>
    intro k s p hp
    rw [stkGo] at hp
    rcases ih (k + 1) _ p hp with h | ⟨j, y, h1, h2, h3⟩
    · unfold stkStep at h
      split at h
      · rename_i h1
        rcases List.mem_append.1 h with h | h
        · exact .inl h
        · exact .inr ⟨0, x, by rw [List.mem_singleton.1 h]; simp, rfl, h1⟩
      · split at h
        · exact .inl (List.dropLast_subset _ h)
        · exact .inl h
    · exact .inr ⟨j + 1, y, by rw [h1]; congr 1; omega, by simpa using h2, h3⟩
theorem around_open {l : List Tok} {p : Int} (h : aroundL l p ≠ -1) : ∃ (i : Nat) (y : Tok), aroundL l p = (i : Int) ∧ l[i]? = some y ∧ y.k = 1 ∧ (i : Int) < p := by
  unfold aroundL at h ⊢
  cases hs : (stackL l p).getLast? with
  | none => rw [hs] at h; exact absurd rfl h
  | some q =>
    have hm := List.mem_of_getLast? hs
    unfold stackL at hm
    split at hm
    · cases hm
    · rename_i hp
      rcases stkGo_mem _ _ _ q hm with h1 | ⟨j, x, h1, h2, h3⟩
      · cases h1
      · rw [List.getElem?_take] at h2
        split at h2
        · refine ⟨j, x, ?_, h2, h3, by omega⟩
          rw [Option.getD_some, h1]
          congr 1
          omega
        · cases h2
theorem stkGo_kinds : ∀ (a b : List Tok) (k : Nat) (s : List Int), a.map (·.k) = b.map (·.k) → stkGo k a s = stkGo k b s := by
  intro a
  induction a with
  | nil =>
    intro b k s h
    cases b with
    | nil => rfl
    | cons => cases h
  | cons x r ih =>
    intro b k s h
    cases b with
    | nil => cases h
    | cons y q =>
      simp only [List.map_cons, List.cons.injEq] at h
      rw [stkGo, stkGo, show stkStep k x s = stkStep k y s by unfold stkStep; rw [h.1]]
      exact ih q _ _ h.2
theorem stack_kinds {a b : List Tok} (h : a.map (·.k) = b.map (·.k)) (p : Int) : stackL a p = stackL b p := by
  unfold stackL
  have hl : a.length = b.length := by simpa using congrArg List.length h
  rw [hl]
  split
  · rfl
  · exact stkGo_kinds _ _ _ _ (by rw [List.map_take, List.map_take, h])
theorem around_kinds {a b : List Tok} (h : a.map (·.k) = b.map (·.k)) (p : Int) : aroundL a p = aroundL b p := by
  unfold aroundL
  rw [stack_kinds h]

/-! ### Another type -/
abbrev openT (t n : Int) : Tok := ⟨1, t, n, 0⟩
theorem set_parts (l : List Tok) (i : Nat) (x : Tok) (hi : i < l.length) : l.take i ++ [x] ++ l.drop (i + 1) = l.set i x := by
  rw [List.set_eq_take_append_cons_drop, if_pos hi]
  simp
theorem right_open {x : Tok} (h : rightB x = true) (h1 : x.k = 1) : x = openT x.t x.n := by
  have h2 : RightP x := of_decide_eq_true h
  unfold RightP at h2
  obtain ⟨k, t, n, m⟩ := x
  simp only at h1 h2 ⊢
  subst h1
  have : m = 0 := by omega
  subst this
  rfl
/-- What EditRetypes says, plain. -/
theorem retypes_plain {l : List Tok} {p t n : Int} {i : Nat} (hl : (houseCheck l).2 = 0) (hi : aroundL l p = (i : Int)) (h : remapErr l (repl i (i + 1) [openT t n]) = 0) :
    i < l.length ∧ stepDo l (repl i (i + 1) [openT t n]) = l.set i (openT t n) ∧ (houseCheck (l.set i (openT t n))).2 = 0 ∧ aroundL (l.set i (openT t n)) p = (i : Int) ∧
    ∃ y : Tok, l[i]? = some y ∧ y = openT y.t y.n ∧ rightB y = true ∧ remapErr (l.set i (openT t n)) (repl i (i + 1) [y]) = 0 ∧ stepDo (l.set i (openT t n)) (repl i (i + 1) [y]) = l := by
  obtain ⟨i', y, h1, h2, h3, h4⟩ := around_open (l := l) (p := p) (by rw [hi]; omega)
  have : i' = i := by rw [hi] at h1; omega
  subst this
  obtain ⟨hlt, hy⟩ := List.getElem?_eq_some_iff.1 h2
  obtain ⟨r1, r2, r3, r4⟩ := remap_zero.1 h
  have hdo : stepDo l (repl i' (i' + 1) [openT t n]) = l.set i' (openT t n) := by
    rw [repl_do, show ((i' : Int)).toNat = i' by omega, show ((i' : Int) + 1).toNat = i' + 1 by omega]
    exact set_parts l i' _ hlt
  rw [hdo] at r4
  have hback : stepDo (l.set i' (openT t n)) (repl i' (i' + 1) [y]) = l := by
    rw [repl_do, show ((i' : Int)).toNat = i' by omega, show ((i' : Int) + 1).toNat = i' + 1 by omega, set_parts _ i' _ (by simpa using hlt), List.set_set, ← hy]
    exact List.set_getElem_self hlt
  have hk : (l.set i' (openT t n)).map (·.k) = l.map (·.k) := by
    rw [List.map_set]
    have e : (openT t n).k = (l.map (·.k))[i']'(by simpa using hlt) := by simp [hy, h3]
    rw [e]
    exact List.set_getElem_self _
  have hr := house_rights hl y (List.mem_of_getElem? h2)
  have h48 := house_len_le hl
  refine ⟨hlt, hdo, r4, (around_kinds hk p).trans hi, y, h2, right_open hr h3, hr, remap_zero.2 ⟨flat_of_house r4, step_check_zero.2 ⟨by simp [repl], repl_ok.2 ⟨by omega, by omega, by omega, fun z hz => ?_⟩⟩, ?_, by rw [hback]; exact hl⟩, hback⟩
  · rw [List.mem_singleton.1 hz]
    exact hr
  · show ((i' : Int) + 1) ≤ _
    rw [List.length_set]
    omega

/-! ### Split, and joined -/
abbrev shutT : Tok := ⟨2, 0, 0, 0⟩
theorem textB_app (a b : List Tok) : textB (a ++ b) = textB a ++ textB b := by
  unfold textB
  rw [List.filter_append, List.flatMap_append]
theorem textB_none {x : Tok} (h : x.k ≠ 0) : textB [x] = [] := by
  unfold textB
  simp [List.filter_cons, h]
/-- What EditSplits says, plain. -/
theorem splits_plain {l : List Tok} {p : Int} {i : Nat} {y : Tok} (hl : (houseCheck l).2 = 0) (hp : 0 ≤ p ∧ p ≤ l.length) (hy : l[i]? = some y) (h1 : y.k = 1) (h : remapErr l (repl p p [shutT, y]) = 0) :
    (houseCheck (stepDo l (repl p p [shutT, y]))).2 = 0 ∧ (stepDo l (repl p p [shutT, y])).length = l.length + 2 ∧ (stepDo l (repl p p [shutT, y]))[p.toNat]? = some shutT ∧ (stepDo l (repl p p [shutT, y]))[p.toNat + 1]? = some y ∧
    remapErr (stepDo l (repl p p [shutT, y])) (repl p (p + 2) []) = 0 ∧ stepDo (stepDo l (repl p p [shutT, y])) (repl p (p + 2) []) = l ∧ textB (stepDo l (repl p p [shutT, y])) = textB l := by
  obtain ⟨d1, d2, d3, d4, d5⟩ := deletes_plain (t := [shutT, y]) hl hp h
  have hlt : (l.take p.toNat).length = p.toNat := by rw [List.length_take]; omega
  refine ⟨d1, d2, ?_, ?_, d4, d5, ?_⟩
  · rw [repl_do, List.append_assoc, List.getElem?_append_right (by omega), hlt, Nat.sub_self]
    rfl
  · rw [repl_do, List.append_assoc, List.getElem?_append_right (by omega), hlt, show p.toNat + 1 - p.toNat = 1 by omega]
    rfl
  · rw [repl_do, textB_app, textB_app, show ([shutT, y] : List Tok) = [shutT] ++ [y] from rfl, textB_app, textB_none (x := shutT) (by decide), textB_none (by omega), List.append_nil, List.append_nil, ← textB_app, List.take_append_drop]
end Go.Proofs.YteeindicpbcjaaaGreatDoor
