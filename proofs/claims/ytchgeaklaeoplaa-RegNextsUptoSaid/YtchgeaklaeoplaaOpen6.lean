/- Arguments of the laws on languages: ints, groups, an expression. -/
import Derived.Test.YtchgeaklaeoplaaOpenI
import Derived.Test.YtchgeaklaeoplaaEx
namespace Go.Proofs.Ytchgeaklaeoplaa
open Go.ChangeShapes Go.WideShapes Go.ChangeAt Go.RowKit
set_option linter.unusedVariables false
set_option linter.unusedSimpArgs false

theorem ints_trod {H : Type} {enc : TypeId × Value → H} {w : World} {base : Nat} {spare : Nat → Bool} {held : Bool} {fuel : Nat} {cs : List Value} {x : DataW H × List MemPlace} (h : DataW.trod enc Try.prog w base spare held fuel 26 cs = some x) :
    ∃ l : List Int, intR.slice.rep w (fun k => k < w.heap.size) l cs ∧ l.length < Rows.uptoBulk x.1 ∧ ∀ y ∈ l, IntWf y := by
  obtain ⟨l, h1, h2, D, h3, _⟩ := slice_opens Try.underlying26 (d := intR) (by kernel_rfl) (by decide) h (Q := fun y _ => IntWf y) (fun n cs' y _ hy => by
    obtain ⟨n, rfl, rfl, hw⟩ := DataW.trod_int Try.underlying3 hy
    exact ⟨n, rfl, hw⟩)
  exact ⟨l, h1, h2, fun y hy => by obtain ⟨i, hi⟩ := List.getElem?_of_mem hy; exact h3 i y hi⟩

theorem arg_ints {H : Type} {enc : TypeId × Value → H} {W : World} {base : Nat} {spare : Nat → Bool} {held : Bool} {v : Value} {d : DataW H} {p : List MemPlace} {r : Reach} {b0 : Nat}
    (hv : Value.okWide Try.prog W r b0 26 v) (h : DataW.Trod enc Try.prog W base spare held 26 v d p) :
    ∃ (A : Option Addr) (c : Nat) (l : List Int), v = .slice A l.length c ∧ l.length ≤ c ∧ intR.row W (fun k => k < W.heap.size) A l ∧ l.length < Rows.uptoBulk d ∧ ∀ x ∈ l, IntWf x := by
  obtain ⟨a, len, cap, rfl⟩ := okWide_slice Try.underlying26 hv
  obtain ⟨fuel, hf⟩ := h
  obtain ⟨l, ⟨A, c, hcs, hlc, hrow⟩, hq, hw⟩ := ints_trod hf
  simp [Value.cells] at hcs
  obtain ⟨rfl, rfl, rfl⟩ := hcs
  exact ⟨_, _, l, rfl, hlc, hrow, hq, hw⟩

def GrpWf (x : Grp) : Prop := ∀ t ∈ x.types, IntWf t
theorem grps_trod {H : Type} {enc : TypeId × Value → H} {w : World} {base : Nat} {spare : Nat → Bool} {held : Bool} {fuel : Nat} {cs : List Value} {x : DataW H × List MemPlace} (h : DataW.trod enc Try.prog w base spare held fuel 25 cs = some x) :
    ∃ l : List Grp, grpR.slice.rep w (fun k => k < w.heap.size) l cs ∧ l.length < Rows.uptoBulk x.1 ∧ ∀ y ∈ l, GrpWf y ∧ y.types.length < Rows.uptoBulk x.1 ∧ y.name.size ≤ Rows.uptoBulk x.1 := by
  obtain ⟨l, h1, h2, D, h3, h4⟩ := slice_opens Try.underlying25 (d := grpR) (by kernel_rfl) (by decide) h (Q := fun y d => GrpWf y ∧ y.types.length < Rows.uptoBulk d ∧ y.name.size ≤ Rows.uptoBulk d) (fun n cs' y _ hy => by
    obtain ⟨ys, n, _, hx, hl, hyl, hf⟩ := DataW.trod_struct Try.underlying34 hy
    have hc : Try.prog.cellsOf 34 = 2 := by kernel_rfl
    have hc1 : Try.prog.cellsOf 9 = 1 := by kernel_rfl
    have hc2 : Try.prog.cellsOf 26 = 1 := by kernel_rfl
    rw [hc] at hl
    match cs', hl with
    | [c0, c1], _ =>
      match ys, hyl with
      | [y0, y1], _ =>
        have f0 : DataW.trod enc Try.prog w base spare held n 9 [c0] = some y0 := by simpa [hc1] using hf 0 _ rfl
        have f1 : DataW.trod enc Try.prog w base spare held n 26 [c1] = some y1 := by simpa [hc1, hc2] using hf 1 _ rfl
        obtain ⟨s, e0, hy0, _⟩ := DataW.trod_string Try.underlying9 f0
        obtain ⟨l, ⟨A, c, e1, hlc, hrow⟩, hq, hw⟩ := ints_trod f1
        simp at e0 e1
        subst e0 e1
        have e : s.data.toList.length = s.size := by rw [Array.length_toList]; rfl
        subst hx
        rw [hy0]
        refine ⟨⟨s, l⟩, ⟨A, c, rfl, hlc, hrow⟩, hw, ?_, ?_⟩
        · simp only [Rows.uptoBulk, Rows.uptoBulkAll, List.map_cons, List.map_nil]; omega
        · simp only [Rows.uptoBulk, Rows.uptoBulkAll, List.map_cons, List.map_nil]; omega)
  refine ⟨l, h1, h2, fun y hy => ?_⟩
  obtain ⟨i, hi⟩ := List.getElem?_of_mem hy
  obtain ⟨a, b, c⟩ := h3 i y hi
  have := bulk_part (d := D i) (l := (List.range l.length).map D) (List.mem_map.2 ⟨i, List.mem_range.2 (List.getElem?_eq_some_iff.1 hi).1, rfl⟩)
  exact ⟨a, by omega, by omega⟩
theorem arg_groups {H : Type} {enc : TypeId × Value → H} {W : World} {base : Nat} {spare : Nat → Bool} {held : Bool} {v : Value} {d : DataW H} {p : List MemPlace} {r : Reach} {b0 : Nat}
    (hv : Value.okWide Try.prog W r b0 25 v) (h : DataW.Trod enc Try.prog W base spare held 25 v d p) :
    ∃ (A : Option Addr) (c : Nat) (l : List Grp), v = .slice A l.length c ∧ l.length ≤ c ∧ grpR.row W (fun k => k < W.heap.size) A l ∧ l.length < Rows.uptoBulk d ∧ ∀ x ∈ l, GrpWf x ∧ x.types.length < Rows.uptoBulk d ∧ x.name.size ≤ Rows.uptoBulk d := by
  obtain ⟨a, len, cap, rfl⟩ := okWide_slice Try.underlying25 hv
  obtain ⟨fuel, hf⟩ := h
  obtain ⟨l, ⟨A, c, hcs, hlc, hrow⟩, hq, hw⟩ := grps_trod hf
  simp [Value.cells] at hcs
  obtain ⟨rfl, rfl, rfl⟩ := hcs
  exact ⟨_, _, l, rfl, hlc, hrow, hq, hw⟩

theorem Ex.wts_sum (l : List Ex) : Ex.wts l = (l.map Ex.wt).sum := by
  induction l with
  | nil => rfl
  | cons x r ih => simp [Ex.wts, ih]
theorem ex_trod : ∀ (N : Nat) {H : Type} {enc : TypeId × Value → H} {w : World} {base : Nat} {spare : Nat → Bool} {held : Bool} {fuel : Nat} {cs : List Value} {x : DataW H × List MemPlace}, Rows.uptoBulk x.1 ≤ N → DataW.trod enc Try.prog w base spare held fuel 24 cs = some x →
    ∃ e : Ex, exR.rep w (fun k => k < w.heap.size) e cs ∧ e.wt ≤ Rows.uptoBulk x.1 := by
  intro N
  induction N with
  | zero => intro H enc w base spare held fuel cs x hN; have := bulk_pos x.1; omega
  | succ N ih =>
    intro H enc w base spare held fuel cs x hN h
    obtain ⟨ys, n, _, hx, hl, hyl, hf⟩ := DataW.trod_struct Try.underlying24 h
    have hc : Try.prog.cellsOf 24 = 3 := by kernel_rfl
    have hc0 : Try.prog.cellsOf 3 = 1 := by kernel_rfl
    have hc1 : Try.prog.cellsOf 9 = 1 := by kernel_rfl
    have hc2 : Try.prog.cellsOf 22 = 1 := by kernel_rfl
    rw [hc] at hl
    match cs, hl with
    | [c0, c1, c2], _ =>
      match ys, hyl with
      | [y0, y1, y2], _ =>
        have f0 : DataW.trod enc Try.prog w base spare held n 3 [c0] = some y0 := by simpa [hc0] using hf 0 _ rfl
        have f1 : DataW.trod enc Try.prog w base spare held n 9 [c1] = some y1 := by simpa [hc0, hc1] using hf 1 _ rfl
        have f2 : DataW.trod enc Try.prog w base spare held n 22 [c2] = some y2 := by simpa [hc0, hc1, hc2] using hf 2 _ rfl
        obtain ⟨k, e0, hy0, _⟩ := DataW.trod_int Try.underlying3 f0
        obtain ⟨s, e1, hy1, _⟩ := DataW.trod_string Try.underlying9 f1
        have e : s.data.toList.length = s.size := by rw [Array.length_toList]; rfl
        subst hx
        obtain ⟨l, ⟨A, c, e2, hlc, hrow⟩, hq, D, h3, h4⟩ := slice_opens Try.underlying22 (d := exR) (by kernel_rfl) (by decide) f2 (Q := fun y d => y.wt ≤ Rows.uptoBulk d) (fun n cs' y hy h => ih (by
          simp only [Rows.uptoBulk, Rows.uptoBulkAll, List.map_cons, List.map_nil] at hN
          omega) h)
        have h5 := bulkAll_sum Ex.wt D l h3
        simp at e0 e1 e2
        subst e0 e1 e2
        refine ⟨.mk k s l, ExRep.of_parts hlc hrow, ?_⟩
        rw [← Ex.wts_sum] at h5
        rw [hy0, hy1]
        simp only [Rows.uptoBulk, Rows.uptoBulkAll, List.map_cons, List.map_nil, Ex.wt]
        omega
theorem arg_expr {H : Type} {enc : TypeId × Value → H} {W : World} {base : Nat} {spare : Nat → Bool} {held : Bool} {v : Value} {d : DataW H} {p : List MemPlace} {r : Reach} {b0 : Nat}
    (hv : Value.okWide Try.prog W r b0 24 v) (h : DataW.Trod enc Try.prog W base spare held 24 v d p) :
    ∃ (e : Ex) (A : Option Addr) (c : Nat), v = .agg #[.int .i64 e.k, .string e.name, .slice A e.l.length c] ∧ e.l.length ≤ c ∧ exR.row W (fun k => k < W.heap.size) A e.l ∧ e.wt ≤ Rows.uptoBulk d := by
  obtain ⟨cs, rfl, hsz⟩ := okWide_struct Try.underlying24 hv
  obtain ⟨fuel, hf⟩ := h
  obtain ⟨e, hr, hw⟩ := ex_trod _ (Nat.le_refl _) hf
  obtain ⟨A, c, hcs, hle, hrow⟩ := ExRep.parts hr
  obtain ⟨cs⟩ := cs
  simp [Value.cells] at hcs
  subst hcs
  exact ⟨e, A, c, rfl, hle, hrow, hw⟩
end Go.Proofs.Ytchgeaklaeoplaa
