/- Steps, plain: when one may be, what it does to tokens. -/
import Derived.Test.YteeindicpbcjaaaGreatDoorFlatC
import Derived.Test.YteeindicpbcjaaaGreatDoorRunC
namespace Go.Proofs.YteeindicpbcjaaaGreatDoor
open Go.RowKit
set_option linter.unusedVariables false
set_option linter.unusedSimpArgs false

structure StepD where
  k : Int
  fr : Int
  tt : Int
  gf : Int
  gt : Int
  ins : Int
  sl : List Tok
  mark : Int
def StepD.val (s : StepD) (A : Option Addr) (c : Nat) : Value := .agg #[.int .i64 s.k, .int .i64 s.fr, .int .i64 s.tt, .int .i64 s.gf, .int .i64 s.gt, .int .i64 s.ins, .slice A s.sl.length c, .int .i64 s.mark]
/-- One that puts tokens between two places. -/
def repl (a b : Int) (l : List Tok) : StepD := ⟨0, a, b, 0, 0, 0, l, 0⟩
def markOne (m : Int) : Prop := m = 1 ∨ m = 2 ∨ m = 4
instance (m : Int) : Decidable (markOne m) := by unfold markOne; infer_instance
/-- What a step of its kind must be. -/
def StepD.kindOk (s : StepD) : Prop :=
  (s.k = 1 ∧ s.fr ≤ s.gf ∧ s.gf < s.gt ∧ s.gt ≤ s.tt ∧ 0 ≤ s.ins ∧ s.ins ≤ s.sl.length ∧ s.mark = 0) ∨
  (s.k = 0 ∧ s.mark = 0 ∧ s.gf = 0 ∧ s.gt = 0 ∧ s.ins = 0) ∨
  ((s.k = 2 ∨ s.k = 3) ∧ s.fr < s.tt ∧ markOne s.mark ∧ s.sl = [] ∧ s.gf = 0 ∧ s.gt = 0 ∧ s.ins = 0)
instance (s : StepD) : Decidable s.kindOk := by unfold StepD.kindOk; infer_instance
def StepD.ok (s : StepD) : Prop := 0 ≤ s.fr ∧ s.fr ≤ s.tt ∧ s.tt ≤ 2048 ∧ s.kindOk ∧ ∀ x ∈ s.sl, rightB x = true
instance (s : StepD) : Decidable s.ok := by unfold StepD.ok; infer_instance
def stepCheck (s : StepD) : Int := if s.sl.length > 2048 then 2 else if s.ok then 0 else 1
/-- A mark put to a set, or taken from it. -/
def turnM (k m set : Int) : Int :=
  if k = 3 then (if (m = 1 ∧ (set = 1 ∨ set = 3)) ∨ (m = 2 ∧ (set = 2 ∨ set = 3)) ∨ (m = 4 ∧ set = 4) then set - m else set)
  else if set = 4 ∨ m = 4 then 4 else if (m = 1 ∧ (set = 1 ∨ set = 3)) ∨ (m = 2 ∧ (set = 2 ∨ set = 3)) then set else set + m
def turnT (k m : Int) (x : Tok) : Tok := if x.k = 0 then ⟨x.k, x.t, x.n, turnM k m x.m⟩ else x
def stepDo (l : List Tok) (s : StepD) : List Tok :=
  if s.k = 0 then l.take s.fr.toNat ++ s.sl ++ l.drop s.tt.toNat
  else if s.k = 1 then l.take s.fr.toNat ++ s.sl.take s.ins.toNat ++ (l.take s.gt.toNat).drop s.gf.toNat ++ s.sl.drop s.ins.toNat ++ l.drop s.tt.toNat
  else l.take s.fr.toNat ++ ((l.take s.tt.toNat).drop s.fr.toNat).map (turnT s.k s.mark) ++ l.drop s.tt.toNat
def stepErr (l : List Tok) (s : StepD) : Int :=
  if (flatCheck l).2 ≠ 0 then (flatCheck l).2
  else if stepCheck s ≠ 0 then stepCheck s
  else if s.tt > l.length then 1
  else if (flatCheck (stepDo l s)).2 = 3 then 4 else (flatCheck (stepDo l s)).2
/-- A step at a document: the document then, the error. -/
def stepApply (l : List Tok) (s : StepD) : List Tok × Int := if stepErr l s = 0 then (stepDo l s, 0) else ([], stepErr l s)
/-- A step at a document that stays valid. -/
def remapErr (l : List Tok) (s : StepD) : Int := if stepErr l s ≠ 0 then stepErr l s else (houseCheck (stepDo l s)).2
theorem flat_of_house {l : List Tok} (h : (houseCheck l).2 = 0) : (flatCheck l).2 = 0 := by
  unfold houseCheck schemaCheck at h
  split at h
  · assumption
  · rename_i hn
    exact absurd h hn
theorem house_len_le {l : List Tok} (h : (houseCheck l).2 = 0) : l.length ≤ 2048 := ((house_iff l).1 h).1
theorem step_err_zero {l : List Tok} {s : StepD} : stepErr l s = 0 ↔ (flatCheck l).2 = 0 ∧ stepCheck s = 0 ∧ s.tt ≤ l.length ∧ (flatCheck (stepDo l s)).2 = 0 := by
  unfold stepErr
  constructor
  · intro h
    split at h
    · omega
    · split at h
      · omega
      · split at h
        · omega
        · split at h
          · omega
          · omega
  · rintro ⟨h1, h2, h3, h4⟩
    rw [if_neg (by omega), if_neg (by omega), if_neg (by omega), if_neg (by omega)]
    exact h4
theorem remap_zero {l : List Tok} {s : StepD} : remapErr l s = 0 ↔ (flatCheck l).2 = 0 ∧ stepCheck s = 0 ∧ s.tt ≤ l.length ∧ (houseCheck (stepDo l s)).2 = 0 := by
  unfold remapErr
  constructor
  · intro h
    split at h
    · omega
    · rename_i h0
      have := step_err_zero.1 (by omega : stepErr l s = 0)
      exact ⟨this.1, this.2.1, this.2.2.1, h⟩
  · rintro ⟨h1, h2, h3, h4⟩
    rw [if_neg (by rw [step_err_zero.2 ⟨h1, h2, h3, flat_of_house h4⟩]; decide)]
    exact h4
theorem remap_step {l : List Tok} {s : StepD} (h : remapErr l s = 0) : stepErr l s = 0 ∧ stepApply l s = (stepDo l s, 0) := by
  obtain ⟨h1, h2, h3, h4⟩ := remap_zero.1 h
  have h5 := step_err_zero.2 ⟨h1, h2, h3, flat_of_house h4⟩
  exact ⟨h5, by unfold stepApply; rw [if_pos h5]⟩
theorem step_check_zero {s : StepD} : stepCheck s = 0 ↔ s.sl.length ≤ 2048 ∧ s.ok := by
  unfold stepCheck
  constructor
  · intro h
    split at h
    · omega
    · split at h
      · rename_i h1 h2
        exact ⟨by omega, h2⟩
      · omega
  · rintro ⟨h1, h2⟩
    rw [if_neg (by omega), if_pos h2]
theorem repl_ok {a b : Int} {l : List Tok} : (repl a b l).ok ↔ 0 ≤ a ∧ a ≤ b ∧ b ≤ 2048 ∧ ∀ x ∈ l, rightB x = true := by
  unfold StepD.ok StepD.kindOk repl
  constructor
  · rintro ⟨h1, h2, h3, _, h5⟩
    exact ⟨h1, h2, h3, h5⟩
  · rintro ⟨h1, h2, h3, h5⟩
    exact ⟨h1, h2, h3, .inr (.inl ⟨rfl, rfl, rfl, rfl, rfl⟩), h5⟩
theorem repl_do (l sl : List Tok) (a b : Int) : stepDo l (repl a b sl) = l.take a.toNat ++ sl ++ l.drop b.toNat := by
  unfold stepDo repl
  rw [if_pos rfl]
theorem fc_rights : ∀ (l : List Tok) (n m : Nat), fcRun n l = some m → ∀ x ∈ l, rightB x = true := by
  intro l
  induction l with
  | nil => intro n m _ x hx; cases hx
  | cons y r ih =>
    intro n m h x hx
    unfold fcRun at h
    split at h
    · cases h
    · rename_i hy
      have hy' : rightB y = true := by simpa using hy
      rcases List.mem_cons.1 hx with rfl | hx
      · exact hy'
      · split at h
        · split at h
          · cases h
          · exact ih _ _ h x hx
        · split at h
          · split at h
            · cases h
            · exact ih _ _ h x hx
          · exact ih _ _ h x hx
theorem house_rights {l : List Tok} (h : (houseCheck l).2 = 0) : ∀ x ∈ l, rightB x = true := fc_rights l 0 0 ((house_iff l).1 h).2.1

/-! ### Text in, and out again -/
theorem in_out (l t : List Tok) (p : Nat) (hp : p ≤ l.length) : (l.take p ++ t ++ l.drop p).take p ++ [] ++ (l.take p ++ t ++ l.drop p).drop (p + t.length) = l := by
  have h1 : (l.take p).length = p := by rw [List.length_take]; omega
  rw [List.append_nil, List.append_assoc, List.take_append_of_le_length (by omega), List.take_take, Nat.min_self, List.drop_append, List.drop_eq_nil_of_le (by omega), List.nil_append, h1]
  rw [show p + t.length - p = t.length by omega, List.drop_append, List.drop_eq_nil_of_le (Nat.le_refl _), List.nil_append, Nat.sub_self, List.drop_zero, List.take_append_drop]
/-- What EditDeletes says, plain. -/
theorem deletes_plain {l t : List Tok} {p : Int} (hl : (houseCheck l).2 = 0) (hp : 0 ≤ p ∧ p ≤ l.length) (h : remapErr l (repl p p t) = 0) :
    (houseCheck (stepDo l (repl p p t))).2 = 0 ∧ (stepDo l (repl p p t)).length = l.length + t.length ∧ p + t.length ≤ (stepDo l (repl p p t)).length ∧ remapErr (stepDo l (repl p p t)) (repl p (p + t.length) []) = 0 ∧ stepDo (stepDo l (repl p p t)) (repl p (p + t.length) []) = l := by
  obtain ⟨h1, h2, h3, h4⟩ := remap_zero.1 h
  have hlen : (stepDo l (repl p p t)).length = l.length + t.length := by
    rw [repl_do]
    simp only [List.length_append, List.length_take, List.length_drop]
    omega
  have hdo : stepDo (stepDo l (repl p p t)) (repl p (p + t.length) []) = l := by
    rw [repl_do, repl_do]
    rw [show (p + (t.length : Int)).toNat = p.toNat + t.length by omega]
    exact in_out l t p.toNat (by omega)
  have hle := house_len_le h4
  refine ⟨h4, hlen, by omega, remap_zero.2 ⟨flat_of_house h4, ?_, ?_, by rw [hdo]; exact hl⟩, hdo⟩
  · refine step_check_zero.2 ⟨by simp [repl], repl_ok.2 ⟨hp.1, by omega, by omega, fun x hx => by cases hx⟩⟩
  · show p + (t.length : Int) ≤ _
    omega
end Go.Proofs.YteeindicpbcjaaaGreatDoor
