/- An argument that is an act. -/
import Derived.Test.YteeindicpbcjaaaGreatDoorOpenKit
namespace Go.Proofs.YteeindicpbcjaaaGreatDoor
open Go.ChangeShapes Go.WideShapes Go.ChangeAt Go.RowKit
set_option linter.unusedVariables false
set_option linter.unusedSimpArgs false

set_option maxRecDepth 100000 in
theorem arg_act {H : Type} {enc : TypeId × Value → H} {W : World} {base : Nat} {spare : Nat → Bool} {held : Bool} {v : Value} {d : DataW H} {p : List MemPlace} {r : Reach} {b0 : Nat}
    (hv : Value.okWide Tryz.prog W r b0 48 v) (h : DataW.Trod enc Tryz.prog W base spare held 48 v d p) :
    ∃ (K a1 b1 p d n : Int) (V : Value), v = .agg #[.int .i64 K, .int .i64 a1, .int .i64 b1, .int .i64 p, .int .i64 d, .int .i64 n, V] := by
  obtain ⟨cs, rfl, hsz⟩ := okWide_struct Tryz.underlying48 hv
  have hc : Tryz.prog.cellsOf 48 = 7 := by kernel_rfl
  have hc1 : Tryz.prog.cellsOf 3 = 1 := by kernel_rfl
  obtain ⟨fuel, hf0⟩ := h
  obtain ⟨ys, n, _, _, hl, hyl, hf⟩ := DataW.trod_struct Tryz.underlying48 hf0
  obtain ⟨cs⟩ := cs
  rw [hc] at hsz
  match cs, hsz with
  | [c0, c1, c2, c3, c4, c5, c6], _ =>
    match ys, hyl with
    | [y0, y1, y2, y3, y4, y5, y6], _ =>
      have f0 : DataW.trod enc Tryz.prog W base spare held n 3 [c0] = some y0 := by simpa [hc1, Value.cells] using hf 0 _ rfl
      have f1 : DataW.trod enc Tryz.prog W base spare held n 3 [c1] = some y1 := by simpa [hc1, Value.cells] using hf 1 _ rfl
      have f2 : DataW.trod enc Tryz.prog W base spare held n 3 [c2] = some y2 := by simpa [hc1, Value.cells] using hf 2 _ rfl
      have f3 : DataW.trod enc Tryz.prog W base spare held n 3 [c3] = some y3 := by simpa [hc1, Value.cells] using hf 3 _ rfl
      have f4 : DataW.trod enc Tryz.prog W base spare held n 3 [c4] = some y4 := by simpa [hc1, Value.cells] using hf 4 _ rfl
      have f5 : DataW.trod enc Tryz.prog W base spare held n 3 [c5] = some y5 := by simpa [hc1, Value.cells] using hf 5 _ rfl
      obtain ⟨n0, e0, _, _⟩ := DataW.trod_int Tryz.underlying3 f0
      obtain ⟨n1, e1, _, _⟩ := DataW.trod_int Tryz.underlying3 f1
      obtain ⟨n2, e2, _, _⟩ := DataW.trod_int Tryz.underlying3 f2
      obtain ⟨n3, e3, _, _⟩ := DataW.trod_int Tryz.underlying3 f3
      obtain ⟨n4, e4, _, _⟩ := DataW.trod_int Tryz.underlying3 f4
      obtain ⟨n5, e5, _, _⟩ := DataW.trod_int Tryz.underlying3 f5
      simp at e0 e1 e2 e3 e4 e5
      subst e0 e1 e2 e3 e4 e5
      exact ⟨n0, n1, n2, n3, n4, n5, c6, rfl⟩
end Go.Proofs.YteeindicpbcjaaaGreatDoor
