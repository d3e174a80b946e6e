/- From what a row reads (its arguments' data) to the words of this development: numbers, strings, slices, tokens; how long they are, by the bound of the second form. -/
import Derived.Test.YtlombemkjjalkaaTok
import Derived.Test.YtlombemkjjalkaaRows
import Derived.ProofKit
import Derived.OpenShut
import Derived.ShutString
import Derived.ChangeOld
import Derived.ChangeArms
import Derived.JoinedCond
import Derived.Deep.Slices
import Derived.Deep.Fields
import Derived.ChangeSame
import Derived.Carry
namespace Go.Proofs.Ytlombemkjjalkaa
open Go.ChangeShapes Go.WideShapes Go.ChangeAt Go.RowKit
set_option linter.unusedVariables false
set_option linter.unusedSimpArgs false

/-- What data of type t gives: a Lean value that the cells say, of which Q holds at its bulk. -/
def Opens {α : Type} (P : Program) (t : TypeId) (d : Rp α) (Q : α → Nat → Prop) : Prop :=
  ∀ (H : Type) (enc : TypeId × Value → H) (w : World) (base : Nat) (spare : Nat → Bool) (held : Bool) (fuel : Nat) (cs : List Value) (x : DataW H × List MemPlace),
    DataW.trod enc P w base spare held fuel t cs = some x → ∃ y, d.rep w (fun k => k < w.heap.size) y cs ∧ Q y (Rows.uptoBulk x.1)

theorem bulk_pos {H : Type} (d : DataW H) : 1 ≤ Rows.uptoBulk d := by
  cases d with
  | lit l => cases l <;> simp [Rows.uptoBulk]
  | nil => simp [Rows.uptoBulk]
  | ptr d => simp [Rows.uptoBulk]
  | slice elems spare => simp [Rows.uptoBulk]
  | agg parts => simp [Rows.uptoBulk]
  | iface t d => simp [Rows.uptoBulk]
  | map entries => simp [Rows.uptoBulk]
  | held h => simp [Rows.uptoBulk]
theorem bulk_part {H : Type} {d : DataW H} {l : List (DataW H)} (h : d ∈ l) : Rows.uptoBulk d ≤ Rows.uptoBulkAll l := by
  induction l with
  | nil => cases h
  | cons x r ih =>
    simp only [Rows.uptoBulkAll]
    cases List.mem_cons.1 h with
    | inl e => subst e; omega
    | inr e => have := ih e; omega
theorem bulk_len {H : Type} (l : List (DataW H)) : l.length ≤ Rows.uptoBulkAll l := by
  induction l with
  | nil => simp [Rows.uptoBulkAll]
  | cons x r ih => have := bulk_pos x; simp only [Rows.uptoBulkAll, List.length_cons]; omega

theorem opens_int {P : Program} {t : TypeId} {k : IntKind} (ht : P.underlying t = some (.int k)) : Opens P t (Rp.int k) (fun y _ => (Lit.int k y).wf = true) := by
  intro H enc w base spare held fuel cs x h
  obtain ⟨n, rfl, rfl, hw⟩ := DataW.trod_int ht h
  exact ⟨n, rfl, hw⟩
theorem opens_bool {P : Program} {t : TypeId} (ht : P.underlying t = some .bool) : Opens P t Rp.bool (fun _ _ => True) := by
  intro H enc w base spare held fuel cs x h
  obtain ⟨n, rfl, rfl⟩ := DataW.trod_bool ht h
  exact ⟨n, rfl, trivial⟩
theorem opens_string {P : Program} {t : TypeId} (ht : P.underlying t = some .string) : Opens P t Rp.string (fun y n => y.size ≤ n) := by
  intro H enc w base spare held fuel cs x h
  obtain ⟨s, rfl, rfl, _⟩ := DataW.trod_string ht h
  refine ⟨s, rfl, ?_⟩
  have e : s.data.toList.length = s.size := by rw [Array.length_toList]; rfl
  simp only [Rows.uptoBulk]
  omega

theorem choose_list {α : Type} (P : Nat → α → Prop) : ∀ n : Nat, (∀ i, i < n → ∃ y, P i y) → ∃ l : List α, l.length = n ∧ ∀ i y, l[i]? = some y → P i y := by
  intro n
  induction n with
  | zero => intro _; exact ⟨[], rfl, by simp⟩
  | succ n ih =>
    intro h
    obtain ⟨l, hl, hp⟩ := ih (fun i hi => h i (by omega))
    obtain ⟨y, hy⟩ := h n (by omega)
    refine ⟨l ++ [y], by simp [hl], fun i z hz => ?_⟩
    rcases Nat.lt_or_ge i l.length with hi | hi
    · rw [List.getElem?_append_left hi] at hz
      exact hp i z hz
    · rw [List.getElem?_append_right hi] at hz
      match hk : i - l.length, hz with
      | 0, hz =>
        simp [hk] at hz
        subst hz
        obtain rfl : i = n := by omega
        exact hy
      | k + 1, hz => simp [hk] at hz

def QSlice {α : Type} (Q : α → Nat → Prop) (l : List α) (n : Nat) : Prop := l.length < n ∧ ∀ y ∈ l, ∃ m, m < n ∧ Q y m

theorem opens_slice {α : Type} {P : Program} {t e : TypeId} {d : Rp α} {Q : α → Nat → Prop} (ht : P.underlying t = some (.slice e)) (hc : P.cellsOf e = d.sz) (hs : 0 < d.sz) (he : Opens P e d Q) : Opens P t d.slice (QSlice Q) := by
  intro H enc w base spare held fuel cs x h
  rcases Deep.open_slice ht h with ⟨rfl, rfl⟩ | ⟨a, len, cap, m, n, D, Pl, rfl, hb, hl, hm, hmm, rfl, hi⟩
  · exact ⟨[], ⟨none, 0, rfl, Nat.le_refl _, .inl rfl⟩, by simp [Rows.uptoBulk], by simp⟩
  · have hlm : len ≤ m := by rw [hmm]; split <;> omega
    obtain ⟨l, hll, hp⟩ := choose_list (fun i y => ∃ cs', w.cells? base (a.add (i * P.cellsOf e)) (P.cellsOf e) = some cs' ∧ d.rep w (fun k => k < w.heap.size) y cs' ∧ Q y (Rows.uptoBulk (D i))) len (fun i hlt => by
      obtain ⟨cs', h1, h2⟩ := hi i (by omega)
      obtain ⟨y, hy, hq⟩ := he H enc w base spare held n cs' _ h2
      exact ⟨y, cs', h1, hy, hq⟩)
    refine ⟨l, ⟨some a, cap, by rw [hll], by omega, ?_⟩, ?_, ?_⟩
    · cases l with
      | nil => exact .inl rfl
      | cons y r =>
        obtain ⟨cs', h1, h2, _⟩ := hp 0 y rfl
        obtain ⟨_, hcl, hat⟩ := World.cells?_some h1
        have h0 := hat 0 (by omega)
        have hlt : 0 < cs'.length := by omega
        rw [List.getElem?_eq_getElem hlt] at h0
        obtain ⟨b, o, sp⟩ := a
        have hsp : sp = none := by
          cases sp with
          | none => rfl
          | some q =>
            simp [World.cell?, Addr.add] at h0
            split at h0 <;> simp_all
        subst hsp
        have hadd : ∀ o j, (⟨b, o, none⟩ : Addr).add j = ⟨b, o + j, none⟩ := fun o j => by unfold Addr.add; split <;> simp_all
        have hblt : b < w.heap.size := by
          have := World.block_lt_of_cell? w _ h0
          rw [hadd, hadd] at this
          exact this
        refine .inr ⟨b, o, rfl, hblt, hblt, fun j z hz => ?_⟩
        obtain ⟨cs2, h3, h4, _⟩ := hp j z hz
        obtain ⟨_, hcl2, hat2⟩ := World.cells?_some h3
        refine ⟨cs2, h4, fun i u hu => ?_⟩
        have hi2 : i < cs2.length := (List.getElem?_eq_some_iff.1 hu).1
        have := hat2 i (by omega)
        rw [hadd, hadd, hc] at this
        rw [this, hu]
    · have h1 := bulk_len ((List.range len).map D)
      simp only [Rows.uptoBulk, List.length_map, List.length_range] at h1 ⊢
      omega
    · intro y hy
      obtain ⟨i, hi2⟩ := List.getElem?_of_mem hy
      obtain ⟨cs', _, _, hq⟩ := hp i y hi2
      have hil : i < len := by have := (List.getElem?_eq_some_iff.1 hi2).1; omega
      refine ⟨_, ?_, hq⟩
      have := bulk_part (d := D i) (l := (List.range len).map D) (List.mem_map.2 ⟨i, List.mem_range.2 hil, rfl⟩)
      simp only [Rows.uptoBulk]
      omega

/-- A token's numbers are ints. -/
def TokWf (x : Tok) : Prop := (Lit.int .i64 x.k).wf = true ∧ (Lit.int .i64 x.t).wf = true ∧ (Lit.int .i64 x.n).wf = true ∧ (Lit.int .i64 x.m).wf = true

theorem opens_tok : Opens Try.prog 33 tokR (fun y _ => TokWf y) := by
  intro H enc w base spare held fuel cs x h
  obtain ⟨ys, n, _, rfl, hl, hyl, hf⟩ := DataW.trod_struct Try.underlying33 h
  have hc : Try.prog.cellsOf 33 = 4 := by kernel_rfl
  have hc1 : Try.prog.cellsOf 3 = 1 := by kernel_rfl
  rw [hc] at hl
  match cs, hl with
  | [c0, c1, c2, c3], _ =>
    match ys, hyl with
    | [y0, y1, y2, y3], _ =>
      have f0 : DataW.trod enc Try.prog w base spare held n 3 [c0] = some y0 := by simpa [hc1] using hf 0 _ rfl
      have f1 : DataW.trod enc Try.prog w base spare held n 3 [c1] = some y1 := by simpa [hc1] using hf 1 _ rfl
      have f2 : DataW.trod enc Try.prog w base spare held n 3 [c2] = some y2 := by simpa [hc1] using hf 2 _ rfl
      have f3 : DataW.trod enc Try.prog w base spare held n 3 [c3] = some y3 := by simpa [hc1] using hf 3 _ rfl
      obtain ⟨n0, e0, _, w0⟩ := DataW.trod_int Try.underlying3 f0
      obtain ⟨n1, e1, _, w1⟩ := DataW.trod_int Try.underlying3 f1
      obtain ⟨n2, e2, _, w2⟩ := DataW.trod_int Try.underlying3 f2
      obtain ⟨n3, e3, _, w3⟩ := DataW.trod_int Try.underlying3 f3
      simp at e0 e1 e2 e3
      subst e0 e1 e2 e3
      exact ⟨⟨n0, n1, n2, n3⟩, rfl, w0, w1, w2, w3⟩

/-- A slice argument of tokens. -/
theorem arg_toks {H : Type} {enc : TypeId × Value → H} {W : World} {base : Nat} {spare : Nat → Bool} {held : Bool} {v : Value} {d : DataW H} {p : List MemPlace} {r : Reach} {b0 : Nat}
    (hv : Value.okWide Try.prog W r b0 25 v) (h : DataW.Trod enc Try.prog W base spare held 25 v d p) :
    ∃ (A : Option Addr) (c : Nat) (l : List Tok), v = .slice A l.length c ∧ l.length ≤ c ∧ tokR.row W (fun k => k < W.heap.size) A l ∧ l.length < Rows.uptoBulk d ∧ ∀ x ∈ l, TokWf x := by
  obtain ⟨a, len, cap, rfl⟩ := okWide_slice Try.underlying25 hv
  obtain ⟨fuel, hf⟩ := h
  obtain ⟨l, ⟨A, c, hcs, hlc, hrow⟩, hq, hw⟩ := opens_slice Try.underlying25 (d := tokR) (by kernel_rfl) (by decide) opens_tok H enc W base spare held fuel _ _ hf
  simp [Value.cells] at hcs
  obtain ⟨rfl, rfl, rfl⟩ := hcs
  exact ⟨_, _, l, rfl, hlc, hrow, hq, fun x hx => by obtain ⟨m, _, h⟩ := hw x hx; exact h⟩
end Go.Proofs.Ytlombemkjjalkaa
