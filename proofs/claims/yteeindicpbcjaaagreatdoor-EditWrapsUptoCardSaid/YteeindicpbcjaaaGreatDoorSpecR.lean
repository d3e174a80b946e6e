/- Specs: how they lie in memory. -/
import Derived.Test.YteeindicpbcjaaaGreatDoorBase
import Derived.Test.YteeindicpbcjaaaGreatDoorProg
namespace Go.Proofs.YteeindicpbcjaaaGreatDoor
open Go.RowKit
set_option linter.unusedVariables false
set_option linter.unusedSimpArgs false

structure Spec where
  name : ByteArray
  expr : ByteArray
  leaf : Bool
  marks : Int
  least : Int
  most : Int
  lines : Bool
abbrev Spec.val (s : Spec) : Value := .agg #[.string s.name, .string s.expr, .bool s.leaf, .int .i64 s.marks, .int .i64 s.least, .int .i64 s.most, .bool s.lines]
abbrev Spec.cs (s : Spec) : List Value := [.string s.name, .string s.expr, .bool s.leaf, .int .i64 s.marks, .int .i64 s.least, .int .i64 s.most, .bool s.lines]
def specR : Rp Spec where
  sz := 7
  rep := fun _ _ x cs => cs = x.cs
  len := fun h => by rw [h]; rfl
  one := fun h u hu => by
    rw [h] at hu
    simp [Spec.cs] at hu
    rcases hu with rfl | rfl | rfl | rfl | rfl | rfl | rfl <;> rfl
  move := fun _ h => h
/-- A spec of a row that is read. -/
theorem spec_at {w : World} {F : Nat → Prop} {A : Option Addr} {xs : List Spec} (h : specR.row w F A xs) {j : Nat} {x : Spec} (hx : xs[j]? = some x) :
    ∃ b o, A = some ⟨b, o, none⟩ ∧ F b ∧ b < w.heap.size ∧ w.cell? ⟨b, o + j * 7, none⟩ = some (.string x.name) ∧ w.cell? ⟨b, o + j * 7 + 1, none⟩ = some (.string x.expr) ∧ w.cell? ⟨b, o + j * 7 + 2, none⟩ = some (.bool x.leaf) ∧ w.cell? ⟨b, o + j * 7 + 3, none⟩ = some (.int .i64 x.marks) ∧ w.cell? ⟨b, o + j * 7 + 4, none⟩ = some (.int .i64 x.least) ∧ w.cell? ⟨b, o + j * 7 + 5, none⟩ = some (.int .i64 x.most) ∧ w.cell? ⟨b, o + j * 7 + 6, none⟩ = some (.bool x.lines) := by
  obtain ⟨b, o, cs, hA, hF, hb, hr, hc⟩ := Rp.row_at h hx
  have hr' : cs = x.cs := hr
  subst hr'
  exact ⟨b, o, hA, hF, hb, hc 0 _ rfl, hc 1 _ rfl, hc 2 _ rfl, hc 3 _ rfl, hc 4 _ rfl, hc 5 _ rfl, hc 6 _ rfl⟩
end Go.Proofs.YteeindicpbcjaaaGreatDoor
