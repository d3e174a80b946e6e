/- An argument that is a row of tokens. -/
import Derived.Test.YtfapglhdakhbeaaGreatDoorOpenKit
import Derived.Test.YtfapglhdakhbeaaGreatDoorFlatC
namespace Go.Proofs.YtfapglhdakhbeaaGreatDoor
open Go.ChangeShapes Go.WideShapes Go.ChangeAt Go.RowKit
set_option linter.unusedVariables false
set_option linter.unusedSimpArgs false

/-- A token's numbers are ints. -/
def TokWf (x : Tok) : Prop := (Lit.int .i64 x.k).wf = true ∧ (Lit.int .i64 x.t).wf = true ∧ (Lit.int .i64 x.n).wf = true ∧ (Lit.int .i64 x.m).wf = true

set_option maxRecDepth 100000 in
theorem opens_tok : Opens Tryz.prog 71 tokR (fun y _ => TokWf y) := by
  intro H enc w base spare held fuel cs x h
  obtain ⟨ys, n, _, rfl, hl, hyl, hf⟩ := DataW.trod_struct Tryz.underlying71 h
  have hc : Tryz.prog.cellsOf 71 = 4 := by kernel_rfl
  have hc1 : Tryz.prog.cellsOf 3 = 1 := by kernel_rfl
  rw [hc] at hl
  match cs, hl with
  | [c0, c1, c2, c3], _ =>
    match ys, hyl with
    | [y0, y1, y2, y3], _ =>
      have f0 : DataW.trod enc Tryz.prog w base spare held n 3 [c0] = some y0 := by simpa [hc1] using hf 0 _ rfl
      have f1 : DataW.trod enc Tryz.prog w base spare held n 3 [c1] = some y1 := by simpa [hc1] using hf 1 _ rfl
      have f2 : DataW.trod enc Tryz.prog w base spare held n 3 [c2] = some y2 := by simpa [hc1] using hf 2 _ rfl
      have f3 : DataW.trod enc Tryz.prog w base spare held n 3 [c3] = some y3 := by simpa [hc1] using hf 3 _ rfl
      obtain ⟨n0, e0, _, w0⟩ := DataW.trod_int Tryz.underlying3 f0
      obtain ⟨n1, e1, _, w1⟩ := DataW.trod_int Tryz.underlying3 f1
      obtain ⟨n2, e2, _, w2⟩ := DataW.trod_int Tryz.underlying3 f2
      obtain ⟨n3, e3, _, w3⟩ := DataW.trod_int Tryz.underlying3 f3
      simp at e0 e1 e2 e3
      subst e0 e1 e2 e3
      exact ⟨⟨n0, n1, n2, n3⟩, rfl, w0, w1, w2, w3⟩


set_option maxRecDepth 100000 in
theorem arg_toks {H : Type} {enc : TypeId × Value → H} {W : World} {base : Nat} {spare : Nat → Bool} {held : Bool} {v : Value} {d : DataW H} {p : List MemPlace} {r : Reach} {b0 : Nat}
    (hv : Value.okWide Tryz.prog W r b0 22 v) (h : DataW.Trod enc Tryz.prog W base spare held 22 v d p) :
    ∃ (A : Option Addr) (c : Nat) (l : List Tok), v = .slice A l.length c ∧ l.length ≤ c ∧ tokR.row W (fun k => k < W.heap.size) A l ∧ l.length < Rows.uptoBulk d ∧ ∀ x ∈ l, TokWf x := by
  obtain ⟨a, len, cap, rfl⟩ := okWide_slice Tryz.underlying22 hv
  obtain ⟨fuel, hf⟩ := h
  obtain ⟨l, ⟨A, c, hcs, hlc, hrow⟩, hq, hw⟩ := opens_slice Tryz.underlying22 (d := tokR) (by kernel_rfl) (by decide) opens_tok H enc W base spare held fuel _ _ hf
  simp [Value.cells] at hcs
  obtain ⟨rfl, rfl, rfl⟩ := hcs
  exact ⟨_, _, l, rfl, hlc, hrow, hq, fun x hx => by obtain ⟨m, _, h⟩ := hw x hx; exact h⟩
end Go.Proofs.YtfapglhdakhbeaaGreatDoor
