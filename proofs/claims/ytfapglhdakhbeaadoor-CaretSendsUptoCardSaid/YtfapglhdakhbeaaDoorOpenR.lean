/- An argument that is a row of ranges. -/
import Derived.Test.YtfapglhdakhbeaaDoorOpenKit
import Derived.Test.YtfapglhdakhbeaaDoorRng
namespace Go.Proofs.YtfapglhdakhbeaaDoor
open Go.ChangeShapes Go.WideShapes Go.ChangeAt Go.RowKit
set_option linter.unusedVariables false
set_option linter.unusedSimpArgs false

/-- A range's numbers are ints. -/
def RngWf (x : Rng) : Prop := (Lit.int .i64 x.at0).wf = true ∧ (Lit.int .i64 x.old).wf = true ∧ (Lit.int .i64 x.new).wf = true

set_option maxRecDepth 100000 in
theorem opens_rng : Opens Tryd.prog 47 rngR (fun y _ => RngWf y) := by
  intro H enc w base spare held fuel cs x h
  obtain ⟨ys, n, _, rfl, hl, hyl, hf⟩ := DataW.trod_struct Tryd.underlying47 h
  have hc : Tryd.prog.cellsOf 47 = 3 := by kernel_rfl
  have hc1 : Tryd.prog.cellsOf 3 = 1 := by kernel_rfl
  rw [hc] at hl
  match cs, hl with
  | [c0, c1, c2], _ =>
    match ys, hyl with
    | [y0, y1, y2], _ =>
      have f0 : DataW.trod enc Tryd.prog w base spare held n 3 [c0] = some y0 := by simpa [hc1] using hf 0 _ rfl
      have f1 : DataW.trod enc Tryd.prog w base spare held n 3 [c1] = some y1 := by simpa [hc1] using hf 1 _ rfl
      have f2 : DataW.trod enc Tryd.prog w base spare held n 3 [c2] = some y2 := by simpa [hc1] using hf 2 _ rfl
      obtain ⟨n0, e0, _, w0⟩ := DataW.trod_int Tryd.underlying3 f0
      obtain ⟨n1, e1, _, w1⟩ := DataW.trod_int Tryd.underlying3 f1
      obtain ⟨n2, e2, _, w2⟩ := DataW.trod_int Tryd.underlying3 f2
      simp at e0 e1 e2
      subst e0 e1 e2
      exact ⟨⟨n0, n1, n2⟩, rfl, w0, w1, w2⟩

set_option maxRecDepth 100000 in
theorem arg_rngs {H : Type} {enc : TypeId × Value → H} {W : World} {base : Nat} {spare : Nat → Bool} {held : Bool} {v : Value} {d : DataW H} {p : List MemPlace} {r : Reach} {b0 : Nat}
    (hv : Value.okWide Tryd.prog W r b0 22 v) (h : DataW.Trod enc Tryd.prog W base spare held 22 v d p) :
    ∃ (A : Option Addr) (c : Nat) (l : List Rng), v = .slice A l.length c ∧ l.length ≤ c ∧ rngR.row W (fun k => k < W.heap.size) A l ∧ l.length < Rows.uptoBulk d ∧ ∀ x ∈ l, RngWf x := by
  obtain ⟨a, len, cap, rfl⟩ := okWide_slice Tryd.underlying22 hv
  obtain ⟨fuel, hf⟩ := h
  obtain ⟨l, ⟨A, c, hcs, hlc, hrow⟩, hq, hw⟩ := opens_slice Tryd.underlying22 (d := rngR) (by kernel_rfl) (by decide) opens_rng H enc W base spare held fuel _ _ hf
  simp [Value.cells] at hcs
  obtain ⟨rfl, rfl, rfl⟩ := hcs
  exact ⟨_, _, l, rfl, hlc, hrow, hq, fun x hx => by obtain ⟨m, _, h⟩ := hw x hx; exact h⟩
end Go.Proofs.YtfapglhdakhbeaaDoor
