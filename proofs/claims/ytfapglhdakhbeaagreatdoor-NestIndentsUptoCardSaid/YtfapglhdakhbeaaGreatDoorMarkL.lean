/- Steps, plain: when one may be, what it does to tokens. A document's text (plain). Commands, plain: another type, split and joined. Commands, plain: around and out again; lifted. Commands, plain: marks put on, or taken off. Sets of marks: place, may, Has, Add, Take, List. mark.List: how many. -/
import Derived.Test.YtfapglhdakhbeaaGreatDoorFlatC
import Derived.Test.YtfapglhdakhbeaaGreatDoorRunC
import Derived.Test.YtfapglhdakhbeaaGreatDoorStack
import Derived.Lib.RuneBytes
import Derived.Laws.Shifts
import Derived.Laws.ShiftsVar
import Derived.Laws.BitsAll
import Derived.Laws.BitsLemmas
namespace Go.Proofs.YtfapglhdakhbeaaGreatDoor
open Go.RowKit
set_option linter.unusedVariables false
set_option linter.unusedSimpArgs false

structure StepD where
  k : Int
  fr : Int
  tt : Int
  gf : Int
  gt : Int
  ins : Int
  sl : List Tok
  mark : Int
def StepD.val (s : StepD) (A : Option Addr) (c : Nat) : Value := .agg #[.int .i64 s.k, .int .i64 s.fr, .int .i64 s.tt, .int .i64 s.gf, .int .i64 s.gt, .int .i64 s.ins, .slice A s.sl.length c, .int .i64 s.mark]
/-- One that puts tokens between two places. -/
def repl (a b : Int) (l : List Tok) : StepD := ⟨0, a, b, 0, 0, 0, l, 0⟩
def markOne (m : Int) : Prop := m = 1 ∨ m = 2 ∨ m = 4
instance (m : Int) : Decidable (markOne m) := by unfold markOne; infer_instance
/-- What a step of its kind must be. -/
def StepD.kindOk (s : StepD) : Prop :=
  (s.k = 1 ∧ s.fr ≤ s.gf ∧ s.gf < s.gt ∧ s.gt ≤ s.tt ∧ 0 ≤ s.ins ∧ s.ins ≤ s.sl.length ∧ s.mark = 0) ∨
  (s.k = 0 ∧ s.mark = 0 ∧ s.gf = 0 ∧ s.gt = 0 ∧ s.ins = 0) ∨
  ((s.k = 2 ∨ s.k = 3) ∧ s.fr < s.tt ∧ markOne s.mark ∧ s.sl = [] ∧ s.gf = 0 ∧ s.gt = 0 ∧ s.ins = 0)
instance (s : StepD) : Decidable s.kindOk := by unfold StepD.kindOk; infer_instance
def StepD.ok (s : StepD) : Prop := 0 ≤ s.fr ∧ s.fr ≤ s.tt ∧ s.tt ≤ 2048 ∧ s.kindOk ∧ ∀ x ∈ s.sl, rightB x = true
instance (s : StepD) : Decidable s.ok := by unfold StepD.ok; infer_instance
def stepCheck (s : StepD) : Int := if s.sl.length > 2048 then 2 else if s.ok then 0 else 1
/-- A mark put to a set, or taken from it. -/
def turnM (k m set : Int) : Int :=
  if k = 3 then (if (m = 1 ∧ (set = 1 ∨ set = 3)) ∨ (m = 2 ∧ (set = 2 ∨ set = 3)) ∨ (m = 4 ∧ set = 4) then set - m else set)
  else if set = 4 ∨ m = 4 then 4 else if (m = 1 ∧ (set = 1 ∨ set = 3)) ∨ (m = 2 ∧ (set = 2 ∨ set = 3)) then set else set + m
def turnT (k m : Int) (x : Tok) : Tok := if x.k = 0 then ⟨x.k, x.t, x.n, turnM k m x.m⟩ else x
def stepDo (l : List Tok) (s : StepD) : List Tok :=
  if s.k = 0 then l.take s.fr.toNat ++ s.sl ++ l.drop s.tt.toNat
  else if s.k = 1 then l.take s.fr.toNat ++ s.sl.take s.ins.toNat ++ (l.take s.gt.toNat).drop s.gf.toNat ++ s.sl.drop s.ins.toNat ++ l.drop s.tt.toNat
  else l.take s.fr.toNat ++ ((l.take s.tt.toNat).drop s.fr.toNat).map (turnT s.k s.mark) ++ l.drop s.tt.toNat
def stepErr (l : List Tok) (s : StepD) : Int :=
  if (flatCheck l).2 ≠ 0 then (flatCheck l).2
  else if stepCheck s ≠ 0 then stepCheck s
  else if s.tt > l.length then 1
  else if (flatCheck (stepDo l s)).2 = 3 then 4 else (flatCheck (stepDo l s)).2
/-- A step at a document: the document then, the error. -/
def stepApply (l : List Tok) (s : StepD) : List Tok × Int := if stepErr l s = 0 then (stepDo l s, 0) else ([], stepErr l s)
/-- A step at a document that stays valid. -/
def remapErr (l : List Tok) (s : StepD) : Int := if stepErr l s ≠ 0 then stepErr l s else (houseCheck (stepDo l s)).2
theorem flat_of_house {l : List Tok} (h : (houseCheck l).2 = 0) : (flatCheck l).2 = 0 := by
  unfold houseCheck schemaCheck at h
  split at h
  · assumption
  · rename_i hn
    exact absurd h hn
theorem house_len_le {l : List Tok} (h : (houseCheck l).2 = 0) : l.length ≤ 2048 := ((house_iff l).1 h).1
theorem step_err_zero {l : List Tok} {s : StepD} : stepErr l s = 0 ↔ (flatCheck l).2 = 0 ∧ stepCheck s = 0 ∧ s.tt ≤ l.length ∧ (flatCheck (stepDo l s)).2 = 0 := by
  unfold stepErr
  constructor
  · intro h
    split at h
    · omega
    · split at h
      · omega
      · split at h
        · omega
        · split at h
          · omega
          · omega
  · rintro ⟨h1, h2, h3, h4⟩
    rw [if_neg (by omega), if_neg (by omega), if_neg (by omega), if_neg (by omega)]
    exact h4
theorem remap_zero {l : List Tok} {s : StepD} : remapErr l s = 0 ↔ (flatCheck l).2 = 0 ∧ stepCheck s = 0 ∧ s.tt ≤ l.length ∧ (houseCheck (stepDo l s)).2 = 0 := by
  unfold remapErr
  constructor
  · intro h
    split at h
    · omega
    · rename_i h0
      have := step_err_zero.1 (by omega : stepErr l s = 0)
      exact ⟨this.1, this.2.1, this.2.2.1, h⟩
  · rintro ⟨h1, h2, h3, h4⟩
    rw [if_neg (by rw [step_err_zero.2 ⟨h1, h2, h3, flat_of_house h4⟩]; decide)]
    exact h4
theorem remap_step {l : List Tok} {s : StepD} (h : remapErr l s = 0) : stepErr l s = 0 ∧ stepApply l s = (stepDo l s, 0) := by
  obtain ⟨h1, h2, h3, h4⟩ := remap_zero.1 h
  have h5 := step_err_zero.2 ⟨h1, h2, h3, flat_of_house h4⟩
  exact ⟨h5, by unfold stepApply; rw [if_pos h5]⟩
theorem step_check_zero {s : StepD} : stepCheck s = 0 ↔ s.sl.length ≤ 2048 ∧ s.ok := by
  unfold stepCheck
  constructor
  · intro h
    split at h
    · omega
    · split at h
      · rename_i h1 h2
        exact ⟨by omega, h2⟩
      · omega
  · rintro ⟨h1, h2⟩
    rw [if_neg (by omega), if_pos h2]
theorem repl_ok {a b : Int} {l : List Tok} : (repl a b l).ok ↔ 0 ≤ a ∧ a ≤ b ∧ b ≤ 2048 ∧ ∀ x ∈ l, rightB x = true := by
  unfold StepD.ok StepD.kindOk repl
  constructor
  · rintro ⟨h1, h2, h3, _, h5⟩
    exact ⟨h1, h2, h3, h5⟩
  · rintro ⟨h1, h2, h3, h5⟩
    exact ⟨h1, h2, h3, .inr (.inl ⟨rfl, rfl, rfl, rfl, rfl⟩), h5⟩
theorem repl_do (l sl : List Tok) (a b : Int) : stepDo l (repl a b sl) = l.take a.toNat ++ sl ++ l.drop b.toNat := by
  unfold stepDo repl
  rw [if_pos rfl]
theorem fc_rights : ∀ (l : List Tok) (n m : Nat), fcRun n l = some m → ∀ x ∈ l, rightB x = true := by
  intro l
  induction l with
  | nil => intro n m _ x hx; cases hx
  | cons y r ih =>
    intro n m h x hx
    unfold fcRun at h
    split at h
    · cases h
    · rename_i hy
      have hy' : rightB y = true := by simpa using hy
      rcases List.mem_cons.1 hx with rfl | hx
      · exact hy'
      · split at h
        · split at h
          · cases h
          · exact ih _ _ h x hx
        · split at h
          · split at h
            · cases h
            · exact ih _ _ h x hx
          · exact ih _ _ h x hx
theorem house_rights {l : List Tok} (h : (houseCheck l).2 = 0) : ∀ x ∈ l, rightB x = true := fc_rights l 0 0 ((house_iff l).1 h).2.1

/-! ### Text in, and out again -/
theorem in_out (l t : List Tok) (p : Nat) (hp : p ≤ l.length) : (l.take p ++ t ++ l.drop p).take p ++ [] ++ (l.take p ++ t ++ l.drop p).drop (p + t.length) = l := by
  have h1 : (l.take p).length = p := by rw [List.length_take]; omega
  rw [List.append_nil, List.append_assoc, List.take_append_of_le_length (by omega), List.take_take, Nat.min_self, List.drop_append, List.drop_eq_nil_of_le (by omega), List.nil_append, h1]
  rw [show p + t.length - p = t.length by omega, List.drop_append, List.drop_eq_nil_of_le (Nat.le_refl _), List.nil_append, Nat.sub_self, List.drop_zero, List.take_append_drop]
/-- What EditDeletes says, plain. -/
theorem deletes_plain {l t : List Tok} {p : Int} (hl : (houseCheck l).2 = 0) (hp : 0 ≤ p ∧ p ≤ l.length) (h : remapErr l (repl p p t) = 0) :
    (houseCheck (stepDo l (repl p p t))).2 = 0 ∧ (stepDo l (repl p p t)).length = l.length + t.length ∧ p + t.length ≤ (stepDo l (repl p p t)).length ∧ remapErr (stepDo l (repl p p t)) (repl p (p + t.length) []) = 0 ∧ stepDo (stepDo l (repl p p t)) (repl p (p + t.length) []) = l := by
  obtain ⟨h1, h2, h3, h4⟩ := remap_zero.1 h
  have hlen : (stepDo l (repl p p t)).length = l.length + t.length := by
    rw [repl_do]
    simp only [List.length_append, List.length_take, List.length_drop]
    omega
  have hdo : stepDo (stepDo l (repl p p t)) (repl p (p + t.length) []) = l := by
    rw [repl_do, repl_do]
    rw [show (p + (t.length : Int)).toNat = p.toNat + t.length by omega]
    exact in_out l t p.toNat (by omega)
  have hle := house_len_le h4
  refine ⟨h4, hlen, by omega, remap_zero.2 ⟨flat_of_house h4, ?_, ?_, by rw [hdo]; exact hl⟩, hdo⟩
  · refine step_check_zero.2 ⟨by simp [repl], repl_ok.2 ⟨hp.1, by omega, by omega, fun x hx => by cases hx⟩⟩
  · show p + (t.length : Int) ≤ _
    omega
end Go.Proofs.YtfapglhdakhbeaaGreatDoor
namespace Go.Proofs.YtfapglhdakhbeaaGreatDoor
open Go.RowKit
set_option linter.unusedVariables false
set_option linter.unusedSimpArgs false

abbrev encB (r : Int) : List UInt8 := Lib.encodeRune r
/-- All code points, as bytes. -/
def textB (l : List Tok) : List UInt8 := (l.filter (fun t => decide (t.k = 0) && rightB t)).flatMap (fun t => encB t.n)
theorem textB_take {l : List Tok} {k : Nat} {x : Tok} (hx : l[k]? = some x) : textB (l.take (k + 1)) = textB (l.take k) ++ if (decide (x.k = 0) && rightB x) = true then encB x.n else [] := by
  unfold textB
  rw [List.take_add_one, hx, List.filter_append, List.flatMap_append]
  congr 1
  by_cases h : (decide (x.k = 0) && rightB x) = true <;> simp [List.filter, h]
theorem textB_len (l : List Tok) : (textB l).length ≤ 4 * l.length := by
  unfold textB
  induction l with
  | nil => simp
  | cons t r ih =>
    have h4 : (encB t.n).length ≤ 4 := by have := (Lib.encodeRuneZ_length t.n).2; simpa [Lib.encodeRune] using this
    by_cases h : (decide (t.k = 0) && rightB t) = true
    · rw [List.filter_cons_of_pos (p := fun t => decide (t.k = 0) && rightB t) h, List.flatMap_cons, List.length_append, List.length_cons]
      omega
    · rw [List.filter_cons_of_neg (p := fun t => decide (t.k = 0) && rightB t) h, List.length_cons]
      omega
theorem right_point {x : Tok} (h0 : x.k = 0) (h : rightB x = true) : 0 ≤ x.n ∧ x.n ≤ 1114111 ∧ (x.n < 55296 ∨ 57343 < x.n) := by
  have h := of_decide_eq_true h
  simp only [RightP, PointP] at h
  omega

end Go.Proofs.YtfapglhdakhbeaaGreatDoor
namespace Go.Proofs.YtfapglhdakhbeaaGreatDoor
open Go.RowKit
set_option linter.unusedVariables false
set_option linter.unusedSimpArgs false

/-! ### What is open -/
theorem stkGo_mem : ∀ (r : List Tok) (k : Nat) (s : List Int), ∀ p ∈ stkGo k r s, p ∈ s ∨ ∃ (j : Nat) (x : Tok), p = ((k + j : Nat) : Int) ∧ r[j]? = some x ∧ x.k = 1 := by
  intro r
  induction r with
  | nil => intro k s p hp; exact .inl hp
  | cons x r ih =>
    intro k s p hp
    rw [stkGo] at hp
    rcases ih (k + 1) _ p hp with h | ⟨j, y, h1, h2, h3⟩
    · unfold stkStep at h
      split at h
      · rename_i h1
        rcases List.mem_append.1 h with h | h
        · exact .inl h
        · exact .inr ⟨0, x, by rw [List.mem_singleton.1 h]; simp, rfl, h1⟩
      · split at h
        · exact .inl (List.dropLast_subset _ h)
        · exact .inl h
    · exact .inr ⟨j + 1, y, by rw [h1]; congr 1; omega, by simpa using h2, h3⟩
theorem around_open {l : List Tok} {p : Int} (h : aroundL l p ≠ -1) : ∃ (i : Nat) (y : Tok), aroundL l p = (i : Int) ∧ l[i]? = some y ∧ y.k = 1 ∧ (i : Int) < p := by
  unfold aroundL at h ⊢
  cases hs : (stackL l p).getLast? with
  | none => rw [hs] at h; exact absurd rfl h
  | some q =>
    have hm := List.mem_of_getLast? hs
    unfold stackL at hm
    split at hm
    · cases hm
    · rename_i hp
      rcases stkGo_mem _ _ _ q hm with h1 | ⟨j, x, h1, h2, h3⟩
      · cases h1
      · rw [List.getElem?_take] at h2
        split at h2
        · refine ⟨j, x, ?_, h2, h3, by omega⟩
          rw [Option.getD_some, h1]
          congr 1
          omega
        · cases h2
theorem stkGo_kinds : ∀ (a b : List Tok) (k : Nat) (s : List Int), a.map (·.k) = b.map (·.k) → stkGo k a s = stkGo k b s := by
  intro a
  induction a with
  | nil =>
    intro b k s h
    cases b with
    | nil => rfl
    | cons => cases h
  | cons x r ih =>
    intro b k s h
    cases b with
    | nil => cases h
    | cons y q =>
      simp only [List.map_cons, List.cons.injEq] at h
      rw [stkGo, stkGo, show stkStep k x s = stkStep k y s by unfold stkStep; rw [h.1]]
      exact ih q _ _ h.2
theorem stack_kinds {a b : List Tok} (h : a.map (·.k) = b.map (·.k)) (p : Int) : stackL a p = stackL b p := by
  unfold stackL
  have hl : a.length = b.length := by simpa using congrArg List.length h
  rw [hl]
  split
  · rfl
  · exact stkGo_kinds _ _ _ _ (by rw [List.map_take, List.map_take, h])
theorem around_kinds {a b : List Tok} (h : a.map (·.k) = b.map (·.k)) (p : Int) : aroundL a p = aroundL b p := by
  unfold aroundL
  rw [stack_kinds h]

/-! ### Another type -/
abbrev openT (t n : Int) : Tok := ⟨1, t, n, 0⟩
theorem set_parts (l : List Tok) (i : Nat) (x : Tok) (hi : i < l.length) : l.take i ++ [x] ++ l.drop (i + 1) = l.set i x := by
  rw [List.set_eq_take_append_cons_drop, if_pos hi]
  simp
theorem right_open {x : Tok} (h : rightB x = true) (h1 : x.k = 1) : x = openT x.t x.n := by
  have h2 : RightP x := of_decide_eq_true h
  unfold RightP at h2
  obtain ⟨k, t, n, m⟩ := x
  simp only at h1 h2 ⊢
  subst h1
  have : m = 0 := by omega
  subst this
  rfl
/-- What EditRetypes says, plain. -/
theorem retypes_plain {l : List Tok} {p t n : Int} {i : Nat} (hl : (houseCheck l).2 = 0) (hi : aroundL l p = (i : Int)) (h : remapErr l (repl i (i + 1) [openT t n]) = 0) :
    i < l.length ∧ stepDo l (repl i (i + 1) [openT t n]) = l.set i (openT t n) ∧ (houseCheck (l.set i (openT t n))).2 = 0 ∧ aroundL (l.set i (openT t n)) p = (i : Int) ∧
    ∃ y : Tok, l[i]? = some y ∧ y = openT y.t y.n ∧ rightB y = true ∧ remapErr (l.set i (openT t n)) (repl i (i + 1) [y]) = 0 ∧ stepDo (l.set i (openT t n)) (repl i (i + 1) [y]) = l := by
  obtain ⟨i', y, h1, h2, h3, h4⟩ := around_open (l := l) (p := p) (by rw [hi]; omega)
  have : i' = i := by rw [hi] at h1; omega
  subst this
  obtain ⟨hlt, hy⟩ := List.getElem?_eq_some_iff.1 h2
  obtain ⟨r1, r2, r3, r4⟩ := remap_zero.1 h
  have hdo : stepDo l (repl i' (i' + 1) [openT t n]) = l.set i' (openT t n) := by
    rw [repl_do, show ((i' : Int)).toNat = i' by omega, show ((i' : Int) + 1).toNat = i' + 1 by omega]
    exact set_parts l i' _ hlt
  rw [hdo] at r4
  have hback : stepDo (l.set i' (openT t n)) (repl i' (i' + 1) [y]) = l := by
    rw [repl_do, show ((i' : Int)).toNat = i' by omega, show ((i' : Int) + 1).toNat = i' + 1 by omega, set_parts _ i' _ (by simpa using hlt), List.set_set, ← hy]
    exact List.set_getElem_self hlt
  have hk : (l.set i' (openT t n)).map (·.k) = l.map (·.k) := by
    rw [List.map_set]
    have e : (openT t n).k = (l.map (·.k))[i']'(by simpa using hlt) := by simp [hy, h3]
    rw [e]
    exact List.set_getElem_self _
  have hr := house_rights hl y (List.mem_of_getElem? h2)
  have h48 := house_len_le hl
  refine ⟨hlt, hdo, r4, (around_kinds hk p).trans hi, y, h2, right_open hr h3, hr, remap_zero.2 ⟨flat_of_house r4, step_check_zero.2 ⟨by simp [repl], repl_ok.2 ⟨by omega, by omega, by omega, fun z hz => ?_⟩⟩, ?_, by rw [hback]; exact hl⟩, hback⟩
  · rw [List.mem_singleton.1 hz]
    exact hr
  · show ((i' : Int) + 1) ≤ _
    rw [List.length_set]
    omega

/-! ### Split, and joined -/
abbrev shutT : Tok := ⟨2, 0, 0, 0⟩
theorem textB_app (a b : List Tok) : textB (a ++ b) = textB a ++ textB b := by
  unfold textB
  rw [List.filter_append, List.flatMap_append]
theorem textB_none {x : Tok} (h : x.k ≠ 0) : textB [x] = [] := by
  unfold textB
  simp [List.filter_cons, h]
/-- What EditSplits says, plain. -/
theorem splits_plain {l : List Tok} {p : Int} {i : Nat} {y : Tok} (hl : (houseCheck l).2 = 0) (hp : 0 ≤ p ∧ p ≤ l.length) (hy : l[i]? = some y) (h1 : y.k = 1) (h : remapErr l (repl p p [shutT, y]) = 0) :
    (houseCheck (stepDo l (repl p p [shutT, y]))).2 = 0 ∧ (stepDo l (repl p p [shutT, y])).length = l.length + 2 ∧ (stepDo l (repl p p [shutT, y]))[p.toNat]? = some shutT ∧ (stepDo l (repl p p [shutT, y]))[p.toNat + 1]? = some y ∧
    remapErr (stepDo l (repl p p [shutT, y])) (repl p (p + 2) []) = 0 ∧ stepDo (stepDo l (repl p p [shutT, y])) (repl p (p + 2) []) = l ∧ textB (stepDo l (repl p p [shutT, y])) = textB l := by
  obtain ⟨d1, d2, d3, d4, d5⟩ := deletes_plain (t := [shutT, y]) hl hp h
  have hlt : (l.take p.toNat).length = p.toNat := by rw [List.length_take]; omega
  refine ⟨d1, d2, ?_, ?_, d4, d5, ?_⟩
  · rw [repl_do, List.append_assoc, List.getElem?_append_right (by omega), hlt, Nat.sub_self]
    rfl
  · rw [repl_do, List.append_assoc, List.getElem?_append_right (by omega), hlt, show p.toNat + 1 - p.toNat = 1 by omega]
    rfl
  · rw [repl_do, textB_app, textB_app, show ([shutT, y] : List Tok) = [shutT] ++ [y] from rfl, textB_app, textB_none (x := shutT) (by decide), textB_none (by omega), List.append_nil, List.append_nil, ← textB_app, List.take_append_drop]
end Go.Proofs.YtfapglhdakhbeaaGreatDoor
namespace Go.Proofs.YtfapglhdakhbeaaGreatDoor
open Go.RowKit
set_option linter.unusedVariables false
set_option linter.unusedSimpArgs false

/-- One that moves what stands in a gap. -/
def arnd (a b g h ins : Int) (sl : List Tok) : StepD := ⟨1, a, b, g, h, ins, sl, 0⟩
theorem arnd_do (l sl : List Tok) (a b g h ins : Int) : stepDo l (arnd a b g h ins sl) = l.take a.toNat ++ sl.take ins.toNat ++ (l.take h.toNat).drop g.toNat ++ sl.drop ins.toNat ++ l.drop b.toNat := by
  unfold stepDo arnd
  rw [if_neg (show ¬ ((1 : Int) = 0) by decide), if_pos rfl]
theorem arnd_ok {a b g h ins : Int} {sl : List Tok} : (arnd a b g h ins sl).ok ↔ 0 ≤ a ∧ a ≤ g ∧ g < h ∧ h ≤ b ∧ b ≤ 2048 ∧ 0 ≤ ins ∧ ins ≤ sl.length ∧ ∀ x ∈ sl, rightB x = true := by
  unfold StepD.ok StepD.kindOk arnd
  constructor
  · rintro ⟨h1, h2, h3, h4, h5⟩
    simp only at h1 h2 h3 h4 h5
    rcases h4 with h4 | h4 | h4
    · exact ⟨h1, h4.2.1, h4.2.2.1, h4.2.2.2.1, h3, h4.2.2.2.2.1, h4.2.2.2.2.2.1, h5⟩
    · exact absurd h4.1 (by decide)
    · exact absurd h4.1 (by decide)
  · rintro ⟨h1, h2, h3, h4, h5, h6, h7, h8⟩
    exact ⟨h1, by simp only; omega, h5, .inl ⟨rfl, h2, h3, h4, h6, h7, rfl⟩, h8⟩

/-! ### Partners -/
theorem pt_at : ∀ (L : List Tok) (j : Nat) (d : Int) (k : Nat), ptGo j d L = some k → j ≤ k ∧ k < j + L.length ∧ ∃ x, L[k - j]? = some x ∧ x.k = 2 := by
  intro L
  induction L with
  | nil => intro j d k h; cases h
  | cons x r ih =>
    intro j d k h
    rw [ptGo] at h
    split at h
    · obtain ⟨h1, h2, y, h3, h4⟩ := ih _ _ _ h
      refine ⟨by omega, by simp; omega, y, ?_, h4⟩
      rw [show k - j = (k - (j + 1)) + 1 by omega, List.getElem?_cons_succ]
      exact h3
    · split at h
      · rename_i h2
        split at h
        · simp only [Option.some.injEq] at h
          subst h
          exact ⟨Nat.le_refl _, by simp, x, by simp, h2⟩
        · obtain ⟨h1, h2, y, h3, h4⟩ := ih _ _ _ h
          refine ⟨by omega, by simp; omega, y, ?_, h4⟩
          rw [show k - j = (k - (j + 1)) + 1 by omega, List.getElem?_cons_succ]
          exact h3
      · obtain ⟨h1, h2, y, h3, h4⟩ := ih _ _ _ h
        refine ⟨by omega, by simp; omega, y, ?_, h4⟩
        rw [show k - j = (k - (j + 1)) + 1 by omega, List.getElem?_cons_succ]
        exact h3
/-- What stands behind the partner plays no part; one level deeper all is passed. -/
theorem pt_local : ∀ (L : List Tok) (j : Nat) (d : Int) (k : Nat), ptGo j d L = some k → ∀ M, ptGo j d (L.take (k + 1 - j) ++ M) = some k := by
  intro L
  induction L with
  | nil => intro j d k h; cases h
  | cons x r ih =>
    intro j d k h M
    have hle := (pt_at _ _ _ _ h).1
    rw [show k + 1 - j = (k - j) + 1 by omega, List.take_succ_cons, List.cons_append]
    rw [ptGo] at h ⊢
    split at h
    · rename_i h1
      have := (pt_at _ _ _ _ h).1
      rw [if_pos h1, show k - j = k + 1 - (j + 1) by omega]
      exact ih _ _ _ h M
    · rename_i h1
      rw [if_neg h1]
      split at h
      · rename_i h2
        rw [if_pos h2]
        split at h
        · rename_i h3
          rw [if_pos h3]
          exact h
        · rename_i h3
          have := (pt_at _ _ _ _ h).1
          rw [if_neg h3, show k - j = k + 1 - (j + 1) by omega]
          exact ih _ _ _ h M
      · rename_i h2
        have := (pt_at _ _ _ _ h).1
        rw [if_neg h2, show k - j = k + 1 - (j + 1) by omega]
        exact ih _ _ _ h M
theorem pt_deep : ∀ (L : List Tok) (j : Nat) (d : Int) (k : Nat), 1 ≤ d → ptGo j d L = some k → ∀ (i : Nat) (M : List Tok), ptGo i (d + 1) (L.take (k + 1 - j) ++ M) = ptGo (i + (k + 1 - j)) 1 M := by
  intro L
  induction L with
  | nil => intro j d k _ h; cases h
  | cons x r ih =>
    intro j d k hd h i M
    have hle := (pt_at _ _ _ _ h).1
    rw [show k + 1 - j = (k - j) + 1 by omega, List.take_succ_cons, List.cons_append]
    rw [ptGo] at h ⊢
    split at h
    · rename_i h1
      have := (pt_at _ _ _ _ h).1
      rw [if_pos h1, show k - j = k + 1 - (j + 1) by omega, ih _ _ _ (by omega) h (i + 1) M]
      congr 1
      omega
    · rename_i h1
      rw [if_neg h1]
      split at h
      · rename_i h2
        rw [if_pos h2, if_neg (by omega)]
        split at h
        · rename_i h3
          simp only [Option.some.injEq] at h
          subst h
          rw [Nat.sub_self, List.take_zero, List.nil_append, show d + 1 - 1 = 1 by omega]
        · rename_i h3
          have := (pt_at _ _ _ _ h).1
          rw [show k - j = k + 1 - (j + 1) by omega, show d + 1 - 1 = (d - 1) + 1 by omega, ih _ _ _ (by omega) h (i + 1) M]
          congr 1
          omega
      · rename_i h2
        have := (pt_at _ _ _ _ h).1
        rw [if_neg h2, show k - j = k + 1 - (j + 1) by omega, ih _ _ _ hd h (i + 1) M]
        congr 1
        omega
theorem pt_shift : ∀ (L : List Tok) (j i : Nat) (d : Int) (k : Nat), ptGo j d L = some k → ptGo i d L = some (i + (k - j)) := by
  intro L
  induction L with
  | nil => intro j i d k h; cases h
  | cons x r ih =>
    intro j i d k h
    rw [ptGo] at h ⊢
    split at h
    · rename_i h1
      have := (pt_at _ _ _ _ h).1
      rw [if_pos h1, ih _ (i + 1) _ _ h]
      congr 1; omega
    · rename_i h1
      rw [if_neg h1]
      split at h
      · rename_i h2
        rw [if_pos h2]
        split at h
        · rename_i h3
          simp only [Option.some.injEq] at h
          subst h
          rw [if_pos h3]
          congr 1; omega
        · rename_i h3
          have := (pt_at _ _ _ _ h).1
          rw [if_neg h3, ih _ (i + 1) _ _ h]
          congr 1; omega
      · rename_i h2
        have := (pt_at _ _ _ _ h).1
        rw [if_neg h2, ih _ (i + 1) _ _ h]
        congr 1; omega
theorem stkGo_app : ∀ (a b : List Tok) (k : Nat) (s : List Int), stkGo k (a ++ b) s = stkGo (k + a.length) b (stkGo k a s) := by
  intro a
  induction a with
  | nil => intro b k s; rfl
  | cons x r ih =>
    intro b k s
    rw [List.cons_append, stkGo, stkGo, ih]
    congr 1
    simp; omega
theorem stack_at {l : List Tok} {n : Nat} (hn : n ≤ l.length) : stackL l (n : Int) = stkGo 0 (l.take n) [] := by
  unfold stackL
  rw [if_neg (by omega), show (max (n : Int) 0).toNat = n by omega]
theorem around_at {l : List Tok} {n : Nat} (hn : n ≤ l.length) : aroundL l (n : Int) = (stkGo 0 (l.take n) []).getLast?.getD (-1) := by
  unfold aroundL
  rw [stack_at hn]

/-- What EditWraps says, plain. -/
theorem wraps_plain {l : List Tok} {p k : Nat} {y : Tok} (q : Tok) (hq : q.k = 1) (hl : (houseCheck l).2 = 0) (hy : l[p]? = some y) (h1 : y.k = 1) (hk : ptGo 0 0 (l.drop p) = some k)
    {x : List Tok} (hx : x = stepDo l (arnd p (p + k + 1) p (p + k + 1) 1 [q, shutT])) (h : remapErr l (arnd p (p + k + 1) p (p + k + 1) 1 [q, shutT]) = 0) :
    (houseCheck x).2 = 0 ∧ x.length = l.length + 2 ∧ x[p]? = some q ∧ x[p + 1]? = some y ∧ p + 3 ≤ x.length ∧ aroundL x ((p : Int) + 2) = (p : Int) + 1 ∧ aroundL x ((p : Int) + 1) = (p : Int) ∧ partL x (p + 1) = (p : Int) + k + 1 ∧ partL x p = (p : Int) + k + 2 ∧
    remapErr x (arnd p (p + k + 3) (p + 1) (p + k + 2) 0 []) = 0 ∧ stepDo x (arnd p (p + k + 3) (p + 1) (p + k + 2) 0 []) = l := by
  obtain ⟨r1, r2, r3, r4⟩ := remap_zero.1 h
  rw [← hx] at r4
  obtain ⟨hlt, hye⟩ := List.getElem?_eq_some_iff.1 hy
  have hp := pt_at _ _ _ _ hk
  rw [List.length_drop] at hp
  obtain ⟨seg, hseg⟩ : ∃ seg, seg = (l.drop p).take (k + 1) := ⟨_, rfl⟩
  have hsl : seg.length = k + 1 := by rw [hseg, List.length_take, List.length_drop]; omega
  have hparts : l = l.take p ++ seg ++ l.drop (p + k + 1) := by
    rw [hseg, List.append_assoc, show p + k + 1 = p + (k + 1) by omega, ← List.drop_drop, List.take_append_drop, List.take_append_drop]
  have hxe : x = l.take p ++ ([q] ++ (seg ++ ([shutT] ++ l.drop (p + k + 1)))) := by
    rw [hx, arnd_do]
    rw [show ((p : Int)).toNat = p by omega, show ((p : Int) + k + 1).toNat = p + k + 1 by omega, show (1 : Int).toNat = 1 by rfl]
    rw [show (l.take (p + k + 1)).drop p = seg by rw [hseg, List.drop_take]; congr 1; omega]
    simp
  have hlp : (l.take p).length = p := by rw [List.length_take]; omega
  have hxl : x.length = l.length + 2 := by
    rw [hxe]
    simp only [List.length_append, hlp, hsl, List.length_drop, List.length_singleton]
    omega
  have hsy : ∃ r, seg = y :: r := by
    rw [hseg, drop_cons hy]
    exact ⟨_, List.take_succ_cons⟩
  obtain ⟨sr, hsr⟩ := hsy
  have hd1 : x.drop (p + 1) = seg ++ ([shutT] ++ l.drop (p + k + 1)) := by
    rw [hxe, ← List.append_assoc, List.drop_left' (by simp [hlp])]
  have hd0 : x.drop p = q :: (seg ++ ([shutT] ++ l.drop (p + k + 1))) := by
    rw [hxe, List.drop_left' hlp]
    rfl
  have hxp1 : x[p + 1]? = some y := by
    rw [← Nat.add_zero (p + 1), ← List.getElem?_drop, hd1, hsr]
    rfl
  have hxp : x[p]? = some q := by
    rw [← Nat.add_zero p, ← List.getElem?_drop, hd0]
    rfl
  have ht1 : x.take (p + 1) = l.take p ++ [q] := by
    rw [hxe, ← List.append_assoc, List.take_left' (by simp [hlp])]
  have ht2 : x.take (p + 2) = l.take p ++ [q] ++ [y] := by
    rw [show p + 2 = (p + 1) + 1 by omega, List.take_add_one, ht1, hxp1]
    rfl
  have hdo : stepDo x (arnd p (p + k + 3) (p + 1) (p + k + 2) 0 []) = l := by
    rw [arnd_do]
    rw [show ((p : Int)).toNat = p by omega, show ((p : Int) + k + 3).toNat = p + k + 3 by omega, show ((p : Int) + 1).toNat = p + 1 by omega, show ((p : Int) + k + 2).toNat = p + k + 2 by omega]
    have e1 : x.take p = l.take p := by rw [hxe, List.take_left' hlp]
    have e2 : (x.take (p + k + 2)).drop (p + 1) = seg := by
      rw [List.drop_take, hd1, show p + k + 2 - (p + 1) = k + 1 by omega, List.take_left' hsl]
    have e3 : x.drop (p + k + 3) = l.drop (p + k + 1) := by
      rw [show p + k + 3 = (p + 1) + (k + 2) by omega, ← List.drop_drop, hd1, ← List.append_assoc, List.drop_left' (by simp [hsl])]
    rw [e1, e2, e3]
    simp only [List.take_nil, List.drop_nil, List.append_nil]
    exact hparts.symm
  have hxle := house_len_le r4
  have hseg1 : ptGo 1 1 sr = some (k - 0) ∨ True := .inr trivial
  have hkk : ptGo 0 0 (seg ++ ([shutT] ++ l.drop (p + k + 1))) = some k := by
    have := pt_local _ _ _ _ hk ([shutT] ++ l.drop (p + k + 1))
    rw [show k + 1 - 0 = k + 1 by omega, ← hseg] at this
    exact this
  refine ⟨r4, hxl, hxp, hxp1, by omega, ?_, ?_, ?_, ?_, ?_, hdo⟩
  · rw [show ((p : Int) + 2) = ((p + 2 : Nat) : Int) by omega, around_at (by omega), ht2, stkGo_app, stkGo_app]
    simp only [stkGo, stkStep, if_pos hq, if_pos h1]
    rw [List.getLast?_append]
    simp [hlp]
  · rw [show ((p : Int) + 1) = ((p + 1 : Nat) : Int) by omega, around_at (by omega), ht1, stkGo_app]
    simp only [stkGo, stkStep, if_pos hq]
    rw [List.getLast?_append]
    simp [hlp]
  · unfold partL
    rw [hd1, hkk]
    simp only
    omega
  · unfold partL
    rw [hd0, ptGo, if_pos hq]
    have hk2 : ptGo 1 1 sr = some (1 + (k - 1)) ∧ 1 ≤ k := by
      have h9 := hk
      rw [drop_cons hy, ptGo, if_pos h1] at h9
      have h10 := (pt_at _ _ _ _ h9).1
      have h11 := pt_local _ _ _ _ h9 []
      have h12 : (l.drop (p + 1)).take (k + 1 - (0 + 1)) = sr := by
        have h13 := hseg
        rw [hsr, drop_cons hy, List.take_succ_cons] at h13
        simp only [List.cons.injEq, true_and] at h13
        rw [h13]
        congr 1
      rw [h12, List.append_nil] at h11
      refine ⟨?_, by omega⟩
      have h14 : ptGo (0 + 1) (0 + 1) sr = some k := h11
      rw [show (1 + (k - 1)) = k by omega]
      exact h14
    have h5 := pt_deep sr 1 1 (1 + (k - 1)) (by decide) hk2.1 2 ([shutT] ++ l.drop (p + k + 1))
    have hsrl : sr.length = k := by
      have := hsl
      rw [hsr] at this
      simpa using this
    rw [show 1 + (k - 1) + 1 - 1 = k by omega, List.take_of_length_le (by omega)] at h5
    rw [hsr, List.cons_append, ptGo, if_pos h1]
    rw [show (0 : Nat) + 1 + 1 = 2 by rfl, show ((0 : Int) + 1 + 1) = 1 + 1 by rfl, h5, List.singleton_append, ptGo, if_neg (by decide), if_pos rfl, if_pos (by decide)]
    simp only
    omega
  · refine remap_zero.2 ⟨flat_of_house r4, step_check_zero.2 ⟨by simp [arnd], arnd_ok.2 ⟨by omega, by omega, by omega, by omega, by omega, by omega, by simp, fun z hz => by cases hz⟩⟩, ?_, by rw [hdo]; exact hl⟩
    show ((p : Int) + k + 3) ≤ _
    omega

/-! ### Lifted -/
theorem part_some {l : List Tok} {i : Nat} {e : Int} (h : partL l i = e) (he : 0 ≤ e) : ∃ k : Nat, e = (i : Int) + k ∧ ptGo 0 0 (l.drop i) = some k ∧ i + k < l.length ∧ ∃ x, l[i + k]? = some x ∧ x.k = 2 := by
  unfold partL at h
  cases hp : ptGo 0 0 (l.drop i) with
  | none => rw [hp] at h; simp only at h; omega
  | some k =>
    rw [hp] at h
    obtain ⟨h1, h2, x, h3, h4⟩ := pt_at _ _ _ _ hp
    rw [List.length_drop] at h2
    refine ⟨k, h.symm, rfl, by omega, x, ?_, h4⟩
    rw [Nat.sub_zero, List.getElem?_drop] at h3
    exact h3
/-- The step that lifts what begins at b out of what begins at q. -/
def liftS (l : List Tok) (b q : Nat) (y : Tok) : StepD :=
  arnd (if (b : Int) = q + 1 then (q : Int) else b) (if partL l b + 1 = partL l q then partL l q + 1 else partL l b + 1) b (partL l b + 1) (if (b : Int) = q + 1 then 0 else 1)
    ((if (b : Int) = q + 1 then [] else [shutT]) ++ (if partL l b + 1 = partL l q then [] else [y]))
/-- What EditLifts says, plain. -/
theorem lifts_plain {l : List Tok} {b q : Nat} {z y : Tok} (hz : l[b]? = some z) (hz1 : z.k = 1) (hy : l[q]? = some y) (hy1 : y.k = 1) (hqb : aroundL l b = (q : Int)) (h : remapErr l (liftS l b q y) = 0) :
    ∃ dest : Nat, (dest : Int) = (liftS l b q y).fr + (liftS l b q y).ins ∧ dest < (stepDo l (liftS l b q y)).length ∧ (stepDo l (liftS l b q y))[dest]? = some z ∧ textB (stepDo l (liftS l b q y)) = textB l ∧
      (stackL (stepDo l (liftS l b q y)) (dest : Int)).length + 1 = (stackL l (b : Int)).length := by
  obtain ⟨r1, r2, r3, r4⟩ := remap_zero.1 h
  obtain ⟨_, ok⟩ := step_check_zero.1 r2
  obtain ⟨o1, o2, o3, o4, o5, o6, o7, o8⟩ := arnd_ok.1 ok
  obtain ⟨kb, hkb, hpb, hbl, _⟩ := part_some (l := l) (i := b) rfl (by omega)
  obtain ⟨hbl2, hze⟩ := List.getElem?_eq_some_iff.1 hz
  obtain ⟨hql2, hye⟩ := List.getElem?_eq_some_iff.1 hy
  obtain ⟨seg, hseg⟩ : ∃ seg, seg = (l.drop b).take (kb + 1) := ⟨_, rfl⟩
  have hsl : seg.length = kb + 1 := by rw [hseg, List.length_take, List.length_drop]; omega
  have hgap : (l.take (partL l b + 1).toNat).drop b = seg := by
    rw [hkb, hseg, List.drop_take]
    congr 1
    omega
  have hparts : l = l.take b ++ (seg ++ l.drop (b + kb + 1)) := by
    rw [hseg, show b + kb + 1 = b + (kb + 1) by omega, ← List.drop_drop, List.take_append_drop, List.take_append_drop]
  have hsh : ∃ sr, seg = z :: sr := by
    rw [hseg, drop_cons hz]
    exact ⟨_, List.take_succ_cons⟩
  obtain ⟨sr, hsr⟩ := hsh
  have hlb : (l.take b).length = b := by rw [List.length_take]; omega
  have hqlt : q < b := by
    obtain ⟨i', _, e1, _, _, e4⟩ := around_open (l := l) (p := (b : Int)) (by rw [hqb]; omega)
    rw [hqb] at e1
    omega
  -- what stands behind
  have htail : ∃ T : List Tok, ∀ A : List Tok, ∀ ins : Nat, ins = (if (b : Int) = q + 1 then [] else [shutT] : List Tok).length → A ++ (((if (b : Int) = q + 1 then [] else [shutT]) ++ (if partL l b + 1 = partL l q then [] else [y]) : List Tok).drop ins ++ l.drop (if partL l b + 1 = partL l q then partL l q + 1 else partL l b + 1).toNat) = A ++ T ∧ textB T = textB (l.drop (b + kb + 1)) := by
    by_cases hlast : partL l b + 1 = partL l q
    · refine ⟨l.drop (b + kb + 2), fun A ins hins => ?_⟩
      rw [if_pos hlast, if_pos hlast, hins, List.append_nil, List.drop_length, List.nil_append, ← hlast, hkb, show ((b : Int) + kb + 1 + 1).toNat = b + kb + 2 by omega]
      refine ⟨rfl, ?_⟩
      obtain ⟨k2, hk2, _, hl2, x2, hx2, hx2k⟩ := part_some (l := l) (i := q) rfl (by omega)
      have : q + k2 = b + kb + 1 := by omega
      rw [this] at hx2
      rw [drop_cons hx2, show x2 :: l.drop (b + kb + 1 + 1) = [x2] ++ l.drop (b + kb + 1 + 1) from rfl, textB_app, textB_none (by omega), List.nil_append]
    · refine ⟨[y] ++ l.drop (b + kb + 1), fun A ins hins => ?_⟩
      rw [if_neg hlast, if_neg hlast, hins, List.drop_left, hkb, show ((b : Int) + kb + 1).toNat = b + kb + 1 by omega]
      exact ⟨rfl, by rw [textB_app, textB_none (by omega), List.nil_append]⟩
  obtain ⟨T, hT⟩ := htail
  have hsb : stackL l (b : Int) = stkGo 0 (l.take b) [] := stack_at (by omega)
  by_cases hfirst : (b : Int) = q + 1
  · have hb1 : b = q + 1 := by omega
    have hx : stepDo l (liftS l b q y) = l.take q ++ (seg ++ T) := by
      unfold liftS
      rw [arnd_do]
      have h9 := (hT (l.take q ++ seg) 0 (by rw [if_pos hfirst]; rfl)).1
      simp only [if_pos hfirst] at h9 ⊢
      rw [show ((b : Int)).toNat = b by omega, hgap, show ((q : Int)).toNat = q by omega, show (0 : Int).toNat = 0 from rfl, List.take_zero, List.append_nil, List.append_assoc (l.take q ++ seg), h9, List.append_assoc]
    have htx : textB T = textB (l.drop (b + kb + 1)) := (hT [] 0 (by rw [if_pos hfirst]; rfl)).2
    have hlq : (l.take q).length = q := by rw [List.length_take]; omega
    have htb : l.take b = l.take q ++ [y] := by rw [hb1, List.take_add_one, hy]; rfl
    have hlen : (l.take q ++ (seg ++ T)).length = q + (kb + 1 + T.length) := by simp only [List.length_append, hlq, hsl]
    refine ⟨q, ?_, ?_, ?_, ?_, ?_⟩
    · unfold liftS arnd
      simp only [if_pos hfirst]
      omega
    · rw [hx, hlen]; omega
    · rw [hx, List.getElem?_append_right (by omega), hlq, Nat.sub_self, hsr]
      rfl
    · rw [hx, textB_app, textB_app, htx]
      conv => rhs; rw [hparts, htb]
      rw [textB_app, textB_app, textB_app, textB_none (x := y) (by omega), List.append_nil]
    · rw [hx, stack_at (by rw [hlen]; omega), List.take_left' hlq, hsb, htb, stkGo_app]
      simp only [stkGo, stkStep, if_pos hy1]
      rw [List.length_append]
      rfl
  · have hx : stepDo l (liftS l b q y) = l.take b ++ [shutT] ++ (seg ++ T) := by
      unfold liftS
      rw [arnd_do]
      have h9 := (hT (l.take b ++ [shutT] ++ seg) 1 (by rw [if_neg hfirst]; rfl)).1
      simp only [if_neg hfirst] at h9 ⊢
      rw [show ((b : Int)).toNat = b by omega, hgap, show (1 : Int).toNat = 1 from rfl]
      rw [show (([shutT] ++ (if partL l b + 1 = partL l q then [] else [y])).take 1 : List Tok) = [shutT] from rfl]
      rw [List.append_assoc (l.take b ++ [shutT] ++ seg), h9, List.append_assoc]
    have htx : textB T = textB (l.drop (b + kb + 1)) := (hT [] 1 (by rw [if_neg hfirst]; rfl)).2
    have hls : (l.take b ++ [shutT]).length = b + 1 := by simp [hlb]
    have hlen : (l.take b ++ [shutT] ++ (seg ++ T)).length = (b + 1) + (kb + 1 + T.length) := by simp only [List.length_append, hlb, hsl, List.length_singleton]
    refine ⟨b + 1, ?_, ?_, ?_, ?_, ?_⟩
    · unfold liftS arnd
      simp only [if_neg hfirst]
      omega
    · rw [hx, hlen]; omega
    · rw [hx, List.getElem?_append_right (by omega), hls, Nat.sub_self, hsr]
      rfl
    · rw [hx, textB_app, textB_app, textB_app, htx, textB_none (x := shutT) (by decide), List.append_nil]
      conv => rhs; rw [hparts]
      rw [textB_app, textB_app]
    · rw [hx, stack_at (by rw [hlen]; omega), List.take_left' hls, hsb, stkGo_app]
      simp only [stkGo, stkStep, if_neg (show ¬ (shutT.k = 1) by decide), if_true]
      rw [List.length_dropLast]
      have : stkGo 0 (l.take b) [] ≠ [] := by
        intro e
        rw [around_at (by omega), e] at hqb
        simp at hqb
      have := List.length_pos_iff.2 this
      omega
end Go.Proofs.YtfapglhdakhbeaaGreatDoor
namespace Go.Proofs.YtfapglhdakhbeaaGreatDoor
open Go.RowKit
set_option linter.unusedVariables false
set_option linter.unusedSimpArgs false

/-- Is a mark in a set? -/
def bitP (set m : Int) : Prop := (m = 1 ∧ (set = 1 ∨ set = 3)) ∨ (m = 2 ∧ (set = 2 ∨ set = 3)) ∨ (m = 4 ∧ set = 4)
instance (set m : Int) : Decidable (bitP set m) := by unfold bitP; infer_instance
def markS (k a b m : Int) : StepD := ⟨k, a, b, 0, 0, 0, [], m⟩
theorem markS_ok {k a b m : Int} (hk : k = 2 ∨ k = 3) : (markS k a b m).ok ↔ 0 ≤ a ∧ a < b ∧ b ≤ 2048 ∧ markOne m := by
  unfold StepD.ok StepD.kindOk markS
  constructor
  · rintro ⟨h1, h2, h3, h4, h5⟩
    simp only at h1 h2 h3 h4
    rcases h4 with h4 | h4 | h4
    · omega
    · omega
    · exact ⟨h1, h4.2.1, h3, h4.2.2.1⟩
  · rintro ⟨h1, h2, h3, h4⟩
    exact ⟨h1, by simp only; omega, h3, .inr (.inr ⟨hk, h2, h4, rfl, rfl, rfl, rfl⟩), fun x hx => by cases hx⟩
theorem turn_take {set m : Int} (hm : markOne m) (hs : 0 ≤ set ∧ set ≤ 4) : ¬ bitP (turnM 3 m set) m := by
  unfold turnM bitP
  rw [if_pos rfl]
  rcases hm with rfl | rfl | rfl <;> split <;> omega
theorem turn_add {set m : Int} (hm : markOne m) (hs : 0 ≤ set ∧ set ≤ 4) : bitP (turnM 2 m set) m ∨ turnM 2 m set = 4 := by
  unfold turnM bitP
  rw [if_neg (by decide)]
  rcases hm with rfl | rfl | rfl <;> split <;> first | omega | (split <;> omega)
theorem turn_in {k set m : Int} (hm : markOne m) (hs : 0 ≤ set ∧ set ≤ 4) : 0 ≤ turnM k m set ∧ turnM k m set ≤ 4 := by
  unfold turnM
  rcases hm with rfl | rfl | rfl <;> split <;> split <;> first | omega | (split <;> omega)
theorem right_mark {x : Tok} (h : rightB x = true) (h0 : x.k = 0) : 0 ≤ x.m ∧ x.m ≤ 4 := by
  have h := of_decide_eq_true h
  simp only [RightP, MarkP] at h
  omega
theorem right_turn {x : Tok} {k m : Int} (hm : markOne m) (h : rightB x = true) : rightB (turnT k m x) = true := by
  unfold turnT
  split
  · rename_i h0
    have h1 := right_mark h h0
    have h2 := turn_in (k := k) hm h1
    have h3 : RightP x := of_decide_eq_true h
    unfold rightB
    rw [decide_eq_true_eq]
    rcases h3 with h3 | h3 | h3
    · exact .inl ⟨h3.1, h3.2.1, h3.2.2.1, h2⟩
    · exact absurd h3.1 (by omega)
    · exact absurd h3.1 (by omega)
  · exact h
theorem textB_turn {k m : Int} (hm : markOne m) : ∀ l : List Tok, (∀ x ∈ l, rightB x = true) → textB (l.map (turnT k m)) = textB l := by
  intro l
  induction l with
  | nil => intro _; rfl
  | cons x r ih =>
    intro h
    have hx := h x List.mem_cons_self
    have hr := ih (fun y hy => h y (List.mem_cons_of_mem _ hy))
    rw [List.map_cons, show turnT k m x :: r.map (turnT k m) = [turnT k m x] ++ r.map (turnT k m) from rfl, show x :: r = [x] ++ r from rfl, textB_app, textB_app, hr]
    congr 1
    unfold textB
    have e1 : (turnT k m x).k = x.k := by unfold turnT; split <;> rfl
    have e2 : (turnT k m x).n = x.n := by unfold turnT; split <;> rfl
    simp [List.filter_cons, right_turn hm hx, hx, e1]
    by_cases h0 : x.k = 0
    · simp [h0, e2]
    · simp [h0]
/-- What EditToggles says, plain. -/
theorem toggles_plain {l : List Tok} {k a b m : Int} (hk : k = 2 ∨ k = 3) (hm : markOne m) (hr : ∀ x ∈ l, rightB x = true) (hab : 0 ≤ a ∧ a ≤ b ∧ b ≤ l.length) :
    (stepDo l (markS k a b m)).length = l.length ∧ textB (stepDo l (markS k a b m)) = textB l ∧
    ∀ i : Nat, a ≤ i → (i : Int) < b → ∃ y, l[i]? = some y ∧ (stepDo l (markS k a b m))[i]? = some (turnT k m y) := by
  have hdo : stepDo l (markS k a b m) = l.take a.toNat ++ ((l.take b.toNat).drop a.toNat).map (turnT k m) ++ l.drop b.toNat := by
    unfold stepDo markS
    simp only
    rw [if_neg (by omega), if_neg (by omega)]
  have h1 : (l.take a.toNat).length = a.toNat := by rw [List.length_take]; omega
  have h2 : ((l.take b.toNat).drop a.toNat).length = b.toNat - a.toNat := by rw [List.length_drop, List.length_take]; omega
  have hparts : l = l.take a.toNat ++ (l.take b.toNat).drop a.toNat ++ l.drop b.toNat := by
    have e : l.take a.toNat ++ (l.take b.toNat).drop a.toNat = l.take b.toNat := by
      conv => rhs; rw [← List.take_append_drop a.toNat (l.take b.toNat)]
      rw [List.take_take]
      congr 2
      omega
    rw [e, List.take_append_drop]
  refine ⟨?_, ?_, fun i hi1 hi2 => ?_⟩
  · rw [hdo]
    simp only [List.length_append, List.length_map, h1, h2, List.length_drop]
    omega
  · rw [hdo, textB_app, textB_app, textB_turn hm]
    · conv => rhs; rw [hparts]
      rw [textB_app, textB_app]
    · intro x hx
      exact hr x (List.mem_of_mem_take (List.mem_of_mem_drop hx))
  · have hlt : i < l.length := by omega
    refine ⟨l[i], List.getElem?_eq_getElem hlt, ?_⟩
    rw [hdo, List.append_assoc, List.getElem?_append_right (by omega), h1, List.getElem?_append_left (by rw [List.length_map, h2]; omega), List.getElem?_map, List.getElem?_drop, List.getElem?_take, if_pos (by omega), show a.toNat + (i - a.toNat) = i by omega, List.getElem?_eq_getElem hlt]
    rfl
end Go.Proofs.YtfapglhdakhbeaaGreatDoor
namespace Go.Proofs.YtfapglhdakhbeaaGreatDoor
open Go.RowKit
set_option linter.unusedVariables false
set_option linter.unusedSimpArgs false

def placeV (m : Int) : Int := if m = 1 then 0 else if m = 2 then 1 else if m = 4 then 2 else 3
set_option maxRecDepth 100000 in
set_option maxHeartbeats 4000000 in
theorem place_calls (m : Int) (w : World) : Calls Tryz.prog 182 #[.int .i64 m] w fun r w' => r = .returned (.int .i64 (placeV m)) ∧ w' = w := by
  by_cases h1 : m = 1
  · subst h1
    go_enter Tryz.func182, Tryz.ntmps182
    go_wp2
    refine wp_loop_rounds 1 ?_
    rw [rounds_succ]
    go_wp2
    go_ret
    exact ⟨rfl, rfl⟩
  · by_cases h2 : m = 2
    · subst h2
      go_enter Tryz.func182, Tryz.ntmps182
      go_wp2
      refine wp_loop_rounds 2 ?_
      rw [rounds_succ]
      go_wp2
      rw [rounds_succ]
      go_wp2
      go_ret
      exact ⟨rfl, rfl⟩
    · by_cases h4 : m = 4
      · subst h4
        go_enter Tryz.func182, Tryz.ntmps182
        go_wp2
        refine wp_loop_rounds 3 ?_
        rw [rounds_succ]
        go_wp2
        rw [rounds_succ]
        go_wp2
        rw [rounds_succ]
        go_wp2
        go_ret
        exact ⟨rfl, rfl⟩
      · have hv : placeV m = 3 := by unfold placeV; rw [if_neg h1, if_neg h2, if_neg h4]
        rw [hv]
        have e1 : (m == 1) = false := by simpa using h1
        have e2 : (m == 2) = false := by simpa using h2
        have e4 : (m == 4) = false := by simpa using h4
        clear h1 h2 h4 hv
        go_enter Tryz.func182, Tryz.ntmps182
        go_wp2
        refine wp_loop_rounds 4 ?_
        rw [rounds_succ]
        go_wp2
        rw [rounds_succ]
        go_wp2
        rw [rounds_succ]
        go_wp2
        rw [rounds_succ]
        go_wp2
        go_ret
        exact ⟨rfl, rfl⟩
def mayV (set m : Int) : Int := if ¬ markOne m then 1 else if ¬ (0 ≤ set ∧ set ≤ 4) then 4 else 0
theorem place_three (m : Int) : (placeV m == 3) = !decide (markOne m) := by
  by_cases h : markOne m
  · rcases h with rfl | rfl | rfl <;> decide
  · have h1 : m ≠ 1 ∧ m ≠ 2 ∧ m ≠ 4 := by unfold markOne at h; omega
    simp [placeV, h1, h]
set_option maxRecDepth 100000 in
set_option maxHeartbeats 4000000 in
theorem mmay_calls (set m : Int) (w : World) : Calls Tryz.prog 147 #[.int .i64 set, .int .i64 m] w fun r w' => r = .returned (.int .i64 (mayV set m)) ∧ w' = w := by
  have hp := place_three m
  by_cases h1 : markOne m
  · have hd : decide (markOne m) = true := by simpa using h1
    rw [hd] at hp
    by_cases h2 : 0 ≤ set ∧ set ≤ 4
    · have hb : markB set = true := decide_eq_true (show MarkP set from h2)
      have hv : mayV set m = 0 := by unfold mayV; rw [if_neg (by simpa using h1), if_neg (by simpa using h2)]
      rw [hv]
      have HR := As.mk (markRight_calls set)
      rw [hb] at HR
      have HP := As.mk (place_calls m)
      generalize placeV m = pv at *
      clear h1 h2 hd hb hv
      go_enter Tryz.func147, Tryz.ntmps147
      go_wp2_with (first | (go_at_call 182; refine (HP.out _).mono ?_; rintro e w' ⟨rfl, rfl⟩) | (go_at_call 155; refine (HR.out _).mono ?_; rintro e w' ⟨rfl, rfl⟩))
      go_ret
      exact ⟨rfl, rfl⟩
    · have hb : markB set = false := decide_eq_false (show ¬ MarkP set from h2)
      have hv : mayV set m = 4 := by unfold mayV; rw [if_neg (by simpa using h1), if_pos h2]
      rw [hv]
      have HR := As.mk (markRight_calls set)
      rw [hb] at HR
      have HP := As.mk (place_calls m)
      generalize placeV m = pv at *
      clear h1 h2 hd hb hv
      go_enter Tryz.func147, Tryz.ntmps147
      go_wp2_with (first | (go_at_call 182; refine (HP.out _).mono ?_; rintro e w' ⟨rfl, rfl⟩) | (go_at_call 155; refine (HR.out _).mono ?_; rintro e w' ⟨rfl, rfl⟩))
      go_ret
      exact ⟨rfl, rfl⟩
  · have hd : decide (markOne m) = false := by simpa using h1
    rw [hd] at hp
    have hv : mayV set m = 1 := by unfold mayV; rw [if_pos h1]
    rw [hv]
    have HP := As.mk (place_calls m)
    generalize placeV m = pv at *
    clear h1 hd hv
    go_enter Tryz.func147, Tryz.ntmps147
    go_wp2_with (go_at_call 182; refine (HP.out _).mono ?_; rintro e w' ⟨rfl, rfl⟩)
    go_ret
    exact ⟨rfl, rfl⟩
def hasP (set m : Int) : Prop := markOne m ∧ (0 ≤ set ∧ set ≤ 4) ∧ bitP set m
instance (set m : Int) : Decidable (hasP set m) := by unfold hasP; infer_instance
theorem may_zero {set m : Int} : mayV set m = 0 ↔ markOne m ∧ 0 ≤ set ∧ set ≤ 4 := by
  unfold mayV
  constructor
  · intro h
    split at h
    · omega
    · rename_i h1
      split at h
      · omega
      · rename_i h2
        exact ⟨by simpa using h1, by omega⟩
  · rintro ⟨h1, h2⟩
    rw [if_neg (by simpa using h1), if_neg (by simpa using h2)]
theorem five {set : Int} (h : 0 ≤ set ∧ set ≤ 4) : set = 0 ∨ set = 1 ∨ set = 2 ∨ set = 3 ∨ set = 4 := by omega
set_option maxRecDepth 100000 in
set_option maxHeartbeats 4000000 in
theorem Has_calls (set m : Int) (w : World) : Calls Tryz.prog 95 #[.int .i64 set, .int .i64 m] w fun r w' => r = .returned (.bool (decide (hasP set m))) ∧ w' = w := by
  have HM := As.mk (mmay_calls set m)
  by_cases h : mayV set m = 0
  · rw [h] at HM
    obtain ⟨h1, h2⟩ := may_zero.1 h
    clear h
    rcases h1 with rfl | rfl | rfl <;> rcases five h2 with rfl | rfl | rfl | rfl | rfl
    all_goals
      clear h2
      go_enter Tryz.func95, Tryz.ntmps95
      go_wp2_with (go_at_call 147; refine (HM.out _).mono ?_; rintro e w' ⟨rfl, rfl⟩)
      go_ret
      exact ⟨by first | rfl | (congr 2; decide), rfl⟩
  · have hv : decide (hasP set m) = false := by
      rw [decide_eq_false_iff_not]
      exact fun h9 => h (may_zero.2 ⟨h9.1, h9.2.1⟩)
    rw [hv]
    have e : (mayV set m == 0) = false := by simpa using h
    generalize mayV set m = mv at *
    clear h hv
    go_enter Tryz.func95, Tryz.ntmps95
    go_wp2_with (go_at_call 147; refine (HM.out _).mono ?_; rintro e w' ⟨rfl, rfl⟩)
    go_ret
    exact ⟨rfl, rfl⟩
set_option maxRecDepth 100000 in
set_option maxHeartbeats 4000000 in
theorem Add_calls (set m : Int) (w : World) : Calls Tryz.prog 94 #[.int .i64 set, .int .i64 m] w fun r w' => r = .returned (.tuple #[.int .i64 (if mayV set m = 0 then turnM 2 m set else 0), .int .i64 (mayV set m)]) ∧ w' = w := by
  have HM := As.mk (mmay_calls set m)
  by_cases h : mayV set m = 0
  · rw [h] at HM ⊢
    obtain ⟨h1, h2⟩ := may_zero.1 h
    clear h
    rw [if_pos rfl]
    rcases h1 with rfl | rfl | rfl <;> rcases five h2 with rfl | rfl | rfl | rfl | rfl
    all_goals
      clear h2
      go_enter Tryz.func94, Tryz.ntmps94
      go_wp2_with (go_at_call 147; refine (HM.out _).mono ?_; rintro e w' ⟨rfl, rfl⟩)
      go_ret2
      exact ⟨by first | rfl | decide, rfl⟩
  · have e : (mayV set m != 0) = true := by simpa using h
    rw [if_neg h]
    generalize mayV set m = mv at *
    clear h
    go_enter Tryz.func94, Tryz.ntmps94
    go_wp2_with (go_at_call 147; refine (HM.out _).mono ?_; rintro e w' ⟨rfl, rfl⟩)
    go_ret2
    exact ⟨rfl, rfl⟩
set_option maxRecDepth 100000 in
set_option maxHeartbeats 4000000 in
theorem Take_calls (set m : Int) (w : World) : Calls Tryz.prog 160 #[.int .i64 set, .int .i64 m] w fun r w' => r = .returned (.tuple #[.int .i64 (if mayV set m = 0 then turnM 3 m set else 0), .int .i64 (mayV set m)]) ∧ w' = w := by
  have HM := As.mk (mmay_calls set m)
  by_cases h : mayV set m = 0
  · rw [h] at HM ⊢
    obtain ⟨h1, h2⟩ := may_zero.1 h
    clear h
    rw [if_pos rfl]
    rcases h1 with rfl | rfl | rfl <;> rcases five h2 with rfl | rfl | rfl | rfl | rfl
    all_goals
      clear h2
      go_enter Tryz.func160, Tryz.ntmps160
      go_wp2_with (go_at_call 147; refine (HM.out _).mono ?_; rintro e w' ⟨rfl, rfl⟩)
      go_ret2
      exact ⟨by first | rfl | decide, rfl⟩
  · have e : (mayV set m != 0) = true := by simpa using h
    rw [if_neg h]
    generalize mayV set m = mv at *
    clear h
    go_enter Tryz.func160, Tryz.ntmps160
    go_wp2_with (go_at_call 147; refine (HM.out _).mono ?_; rintro e w' ⟨rfl, rfl⟩)
    go_ret2
    exact ⟨rfl, rfl⟩
end Go.Proofs.YtfapglhdakhbeaaGreatDoor
namespace Go.Proofs.YtfapglhdakhbeaaGreatDoor
open Go.RowKit
set_option linter.unusedVariables false
set_option linter.unusedSimpArgs false

def listL (set : Int) (k : Nat) : List Int := (([1, 2, 4] : List Int).take k).filter (fun m => decide (hasP set m))
theorem listL_len (set : Int) (k : Nat) : (listL set k).length ≤ 3 := by
  unfold listL
  refine Nat.le_trans (List.length_filter_le _ _) ?_
  rw [List.length_take]
  simp
  omega
theorem list_one (set : Int) : ((listL set 3).length = 1) ↔ markOne set := by
  by_cases h : 0 ≤ set ∧ set ≤ 4
  · rcases five h with rfl | rfl | rfl | rfl | rfl <;> decide
  · have h1 : ∀ m, decide (hasP set m) = false := fun m => decide_eq_false (fun h2 => h h2.2.1)
    have h2 : listL set 3 = [] := by
      unfold listL
      rw [List.filter_eq_nil_iff]
      intro a _
      rw [h1]
      simp
    rw [h2]
    unfold markOne
    constructor
    · intro h3; cases h3
    · intro h3; omega
set_option maxRecDepth 100000 in
set_option maxHeartbeats 4000000 in
theorem List_calls (set : Int) (w : World) : Calls Tryz.prog 158 #[.int .i64 set] w fun r w' => (∃ A c, r = .returned (.slice A (listL set 3).length c)) ∧ Pure w w' := by
  have HM := As.mk (fun m w => Has_calls set m w)
  go_enter Tryz.func158, Tryz.ntmps158
  go_wp2
  go_loopg [3, 4] 3 (fun gg v kv wr => ∃ k : Nat, k + gg = 3 ∧ kv = .int .i64 k ∧ As (intRS.own 3 wr (fun q => w.heap.size ≤ q) v (listL set k) ∧ Pure w wr))
  case atStart => exact ⟨0, by omega, rfl, ⟨Rp.own_nil _ _ _ _, Upd.refl _ _⟩⟩
  case round =>
    obtain ⟨k, hk, rfl, HS⟩ := hrel
    have hcase : k = 3 ∨ ∃ m : Int, (k = 0 ∧ m = 1 ∨ k = 1 ∧ m = 2 ∨ k = 2 ∧ m = 4) := by
      rcases (by omega : k = 0 ∨ k = 1 ∨ k = 2 ∨ k = 3) with h | h | h | h
      · exact .inr ⟨1, .inl ⟨h, rfl⟩⟩
      · exact .inr ⟨2, .inr (.inl ⟨h, rfl⟩)⟩
      · exact .inr ⟨4, .inr (.inr ⟨h, rfl⟩)⟩
      · exact .inl h
    rcases hcase with rfl | ⟨m, hm⟩
    · obtain ⟨A, c, rfl, _, _⟩ := Rp.own_slice HS.out.1
      go_wp2
      go_ret
      exact ⟨⟨_, _, rfl⟩, HS.out.2⟩
    · obtain ⟨ho, hp⟩ := HS.out
      have HO := As.mk ho
      have HP := As.mk hp
      have hll := listL_len set k
      obtain ⟨g1, rfl⟩ : ∃ m, gk = m + 1 := ⟨gk - 1, by omega⟩
      have HMM := As.mk (HM.out m)
      have HLS := As.mk (show listL set (k + 1) = listL set k ++ (if decide (hasP set m) = true then [m] else []) by
        unfold listL
        rcases hm with ⟨rfl, rfl⟩ | ⟨rfl, rfl⟩ | ⟨rfl, rfl⟩
        all_goals
          rw [List.take_add_one, List.filter_append]
          congr 1
          simp [List.filter_cons])
      clear ho hp HS
      cases hb : decide (hasP set m)
      · rw [hb] at HMM HLS
        have HLS2 := As.mk (show listL set (k + 1) = listL set k by rw [HLS.out]; simp)
        clear hb HLS
        rcases hm with ⟨rfl, rfl⟩ | ⟨rfl, rfl⟩ | ⟨rfl, rfl⟩
        · go_wp2_with (go_at_call 95; refine (HMM.out _).mono ?_; rintro e w' ⟨rfl, rfl⟩)
          go_roundg g1
          case measure => omega
          case rel => exact ⟨1, by omega, by first | rfl | go_num, ⟨by rw [HLS2.out]; exact HO.out, HP.out⟩⟩
        · go_wp2_with (go_at_call 95; refine (HMM.out _).mono ?_; rintro e w' ⟨rfl, rfl⟩)
          go_roundg g1
          case measure => omega
          case rel => exact ⟨2, by omega, by first | rfl | go_num, ⟨by rw [HLS2.out]; exact HO.out, HP.out⟩⟩
        · go_wp2_with (go_at_call 95; refine (HMM.out _).mono ?_; rintro e w' ⟨rfl, rfl⟩)
          go_roundg g1
          case measure => omega
          case rel => exact ⟨3, by omega, by first | rfl | go_num, ⟨by rw [HLS2.out]; exact HO.out, HP.out⟩⟩
      · rw [hb] at HMM HLS
        have HLS2 := As.mk (show listL set (k + 1) = listL set k ++ [m] by rw [HLS.out]; simp)
        clear hb HLS
        rcases hm with ⟨rfl, rfl⟩ | ⟨rfl, rfl⟩ | ⟨rfl, rfl⟩
        · go_wp2_with (first | (go_at_call 95; refine (HMM.out _).mono ?_; rintro e w' ⟨rfl, rfl⟩) | (at_builtin; refine Rp.own_append intRS HO.out (1 : Int) [.int .i64 1] rfl (Fp := fun _ => False) (G := fun q => w.heap.size ≤ q) (fun _ h => h.elim) (fun _ h _ => h) (fun q hq => by have := HP.out.size; omega) rfl _ _ 86 _ 8 rfl Tryz.underlying86 int_infoS rfl (by decide) (by decide) rfl (by simp [Act.eval]) (by omega) ?_; intro v1 w1 ho1 hu1; have HO1 := As.mk ho1; have HU1 := As.mk (Upd.trans HP.out hu1 (fun q hq h => by have := Rp.own_block_lt HO.out q h; omega)); clear ho1 hu1))
          go_roundg g1
          case measure => omega
          case rel => exact ⟨1, by omega, by first | rfl | go_num, ⟨by rw [HLS2.out]; exact HO1.out, HU1.out⟩⟩
        · go_wp2_with (first | (go_at_call 95; refine (HMM.out _).mono ?_; rintro e w' ⟨rfl, rfl⟩) | (at_builtin; refine Rp.own_append intRS HO.out (2 : Int) [.int .i64 2] rfl (Fp := fun _ => False) (G := fun q => w.heap.size ≤ q) (fun _ h => h.elim) (fun _ h _ => h) (fun q hq => by have := HP.out.size; omega) rfl _ _ 86 _ 8 rfl Tryz.underlying86 int_infoS rfl (by decide) (by decide) rfl (by simp [Act.eval]) (by omega) ?_; intro v1 w1 ho1 hu1; have HO1 := As.mk ho1; have HU1 := As.mk (Upd.trans HP.out hu1 (fun q hq h => by have := Rp.own_block_lt HO.out q h; omega)); clear ho1 hu1))
          go_roundg g1
          case measure => omega
          case rel => exact ⟨2, by omega, by first | rfl | go_num, ⟨by rw [HLS2.out]; exact HO1.out, HU1.out⟩⟩
        · go_wp2_with (first | (go_at_call 95; refine (HMM.out _).mono ?_; rintro e w' ⟨rfl, rfl⟩) | (at_builtin; refine Rp.own_append intRS HO.out (4 : Int) [.int .i64 4] rfl (Fp := fun _ => False) (G := fun q => w.heap.size ≤ q) (fun _ h => h.elim) (fun _ h _ => h) (fun q hq => by have := HP.out.size; omega) rfl _ _ 86 _ 8 rfl Tryz.underlying86 int_infoS rfl (by decide) (by decide) rfl (by simp [Act.eval]) (by omega) ?_; intro v1 w1 ho1 hu1; have HO1 := As.mk ho1; have HU1 := As.mk (Upd.trans HP.out hu1 (fun q hq h => by have := Rp.own_block_lt HO.out q h; omega)); clear ho1 hu1))
          go_roundg g1
          case measure => omega
          case rel => exact ⟨3, by omega, by first | rfl | go_num, ⟨by rw [HLS2.out]; exact HO1.out, HU1.out⟩⟩
end Go.Proofs.YtfapglhdakhbeaaGreatDoor
