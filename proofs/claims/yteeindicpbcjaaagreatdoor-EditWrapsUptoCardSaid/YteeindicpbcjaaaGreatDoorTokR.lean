/- Tokens: how they lie in memory. -/
import Derived.Test.YteeindicpbcjaaaGreatDoorBase
import Derived.Test.YteeindicpbcjaaaGreatDoorProg
import Derived.Laws.Shifts
import Derived.Laws.BitsAll
namespace Go.Proofs.YteeindicpbcjaaaGreatDoor
open Go.RowKit
set_option linter.unusedVariables false
set_option linter.unusedSimpArgs false

structure Tok where
  k : Int
  t : Int
  n : Int
  m : Int
deriving DecidableEq
abbrev Tok.cs (x : Tok) : List Value := [.int .i64 x.k, .int .i64 x.t, .int .i64 x.n, .int .i64 x.m]
abbrev Tok.val (x : Tok) : Value := .agg #[.int .i64 x.k, .int .i64 x.t, .int .i64 x.n, .int .i64 x.m]
def tokR : Rp Tok where
  sz := 4
  rep := fun _ _ x cs => cs = x.cs
  len := fun h => by rw [h]; rfl
  one := fun h u hu => by
    rw [h] at hu
    simp [Tok.cs] at hu
    rcases hu with rfl | rfl | rfl | rfl <;> rfl
  move := fun _ h => h

/-- A token of a row that is read. -/
theorem tok_at {w : World} {F : Nat → Prop} {A : Option Addr} {xs : List Tok} (h : tokR.row w F A xs) {j : Nat} {x : Tok} (hx : xs[j]? = some x) :
    ∃ b o, A = some ⟨b, o, none⟩ ∧ F b ∧ b < w.heap.size ∧ w.cell? ⟨b, o + j * 4, none⟩ = some (.int .i64 x.k) ∧ w.cell? ⟨b, o + j * 4 + 1, none⟩ = some (.int .i64 x.t) ∧ w.cell? ⟨b, o + j * 4 + 2, none⟩ = some (.int .i64 x.n) ∧ w.cell? ⟨b, o + j * 4 + 3, none⟩ = some (.int .i64 x.m) := by
  obtain ⟨b, o, cs, hA, hF, hb, hr, hc⟩ := Rp.row_at h hx
  have hr' : cs = x.cs := hr
  subst hr'
  exact ⟨b, o, hA, hF, hb, hc 0 _ rfl, hc 1 _ rfl, hc 2 _ rfl, hc 3 _ rfl⟩

theorem tok_info : (Tryz.prog.info? 40).map (fun i => (i.zero, i.size, i.bytes)) = some (some (.agg #[.int .i64 0, .int .i64 0, .int .i64 0, .int .i64 0]), 4, 32) := by kernel_rfl

theorem ret_bool {a b : Bool} (h : a = b) : Ending.returned (.bool a) = .returned (.bool b) := by rw [h]

def MarkP (s : Int) : Prop := 0 ≤ s ∧ s ≤ 4
instance (s : Int) : Decidable (MarkP s) := by unfold MarkP; infer_instance
def PointP (n : Int) : Prop := 0 ≤ n ∧ n ≤ 1114111 ∧ n / 2048 ≠ 27
instance (n : Int) : Decidable (PointP n) := by unfold PointP; infer_instance
/-- A token that is one. -/
def RightP (x : Tok) : Prop :=
  (x.k = 0 ∧ x.t = 0 ∧ PointP x.n ∧ MarkP x.m) ∨ (x.k = 2 ∧ x.t = 0 ∧ x.n = 0 ∧ x.m = 0) ∨ ((x.k = 1 ∨ x.k = 3) ∧ 0 < x.t ∧ x.t < 16 ∧ 0 ≤ x.n ∧ x.n < 16 ∧ x.m = 0)
instance (x : Tok) : Decidable (RightP x) := by unfold RightP; infer_instance
def markB (s : Int) : Bool := decide (MarkP s)
def pointB (n : Int) : Bool := decide (PointP n)
def rightB (x : Tok) : Bool := decide (RightP x)

theorem drop_cons {α : Type} {l : List α} {k : Nat} {x : α} (h : l[k]? = some x) : l.drop k = x :: l.drop (k + 1) := by
  obtain ⟨hk, he⟩ := List.getElem?_eq_some_iff.1 h
  rw [List.drop_eq_getElem_cons hk, he]
end Go.Proofs.YteeindicpbcjaaaGreatDoor
