/- An argument that is a spec. -/
import Derived.Test.YtlombemkjjalkaaOpen
import Derived.Test.YtlombemkjjalkaaPlain
namespace Go.Proofs.Ytlombemkjjalkaa
open Go.ChangeShapes Go.WideShapes Go.ChangeAt Go.RowKit
set_option linter.unusedVariables false
set_option linter.unusedSimpArgs false

theorem arg_spec {H : Type} {enc : TypeId × Value → H} {W : World} {base : Nat} {spare : Nat → Bool} {held : Bool} {v : Value} {d : DataW H} {p : List MemPlace} {r : Reach} {b0 : Nat}
    (hv : Value.okWide Try.prog W r b0 27 v) (h : DataW.Trod enc Try.prog W base spare held 27 v d p) :
    ∃ s : Spec, v = s.val ∧ (Lit.int .i64 s.marks).wf = true := by
  obtain ⟨cs, rfl, hsz⟩ := okWide_struct Try.underlying27 hv
  have hc : Try.prog.cellsOf 27 = 7 := by kernel_rfl
  have hc1 : Try.prog.cellsOf 3 = 1 := by kernel_rfl
  have hc2 : Try.prog.cellsOf 9 = 1 := by kernel_rfl
  have hc3 : Try.prog.cellsOf 4 = 1 := by kernel_rfl
  obtain ⟨fuel, hf0⟩ := h
  obtain ⟨ys, n, _, _, hl, hyl, hf⟩ := DataW.trod_struct Try.underlying27 hf0
  obtain ⟨cs⟩ := cs
  rw [hc] at hsz
  match cs, hsz with
  | [c0, c1, c2, c3, c4, c5, c6], _ =>
    match ys, hyl with
    | [y0, y1, y2, y3, y4, y5, y6], _ =>
      have f0 : DataW.trod enc Try.prog W base spare held n 9 [c0] = some y0 := by simpa [hc2, Value.cells] using hf 0 _ rfl
      have f1 : DataW.trod enc Try.prog W base spare held n 9 [c1] = some y1 := by simpa [hc2, Value.cells] using hf 1 _ rfl
      have f2 : DataW.trod enc Try.prog W base spare held n 4 [c2] = some y2 := by simpa [hc3, Value.cells] using hf 2 _ rfl
      have f3 : DataW.trod enc Try.prog W base spare held n 3 [c3] = some y3 := by simpa [hc1, Value.cells] using hf 3 _ rfl
      have f4 : DataW.trod enc Try.prog W base spare held n 3 [c4] = some y4 := by simpa [hc1, Value.cells] using hf 4 _ rfl
      have f5 : DataW.trod enc Try.prog W base spare held n 3 [c5] = some y5 := by simpa [hc1, Value.cells] using hf 5 _ rfl
      have f6 : DataW.trod enc Try.prog W base spare held n 4 [c6] = some y6 := by simpa [hc3, Value.cells] using hf 6 _ rfl
      obtain ⟨n0, e0, _, _⟩ := DataW.trod_string Try.underlying9 f0
      obtain ⟨n1, e1, _, _⟩ := DataW.trod_string Try.underlying9 f1
      obtain ⟨n2, e2, _⟩ := DataW.trod_bool Try.underlying4 f2
      obtain ⟨n3, e3, _, w3⟩ := DataW.trod_int Try.underlying3 f3
      obtain ⟨n4, e4, _, _⟩ := DataW.trod_int Try.underlying3 f4
      obtain ⟨n5, e5, _, _⟩ := DataW.trod_int Try.underlying3 f5
      obtain ⟨n6, e6, _⟩ := DataW.trod_bool Try.underlying4 f6
      simp at e0 e1 e2 e3 e4 e5 e6
      subst e0 e1 e2 e3 e4 e5 e6
      exact ⟨⟨n0, n1, n2, n3, n4, n5, n6⟩, rfl, w3⟩
end Go.Proofs.Ytlombemkjjalkaa
