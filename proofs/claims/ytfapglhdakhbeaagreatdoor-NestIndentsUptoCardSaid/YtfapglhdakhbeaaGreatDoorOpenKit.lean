/- From what a row reads (its arguments' data) to the words of this development: numbers, strings, slices (any program); how long they are, by the bound of the second form. -/
import Derived.Test.YtfapglhdakhbeaaGreatDoorBase
import Derived.Test.YtfapglhdakhbeaaGreatDoorProg
import Derived.Test.YtfapglhdakhbeaaGreatDoorRows
import Derived.ProofKit
import Derived.OpenShut
import Derived.ShutString
import Derived.ChangeOld
import Derived.ChangeArms
import Derived.JoinedCond
import Derived.Deep.Slices
import Derived.Deep.Fields
import Derived.ChangeSame
import Derived.Carry
namespace Go.Proofs.YtfapglhdakhbeaaGreatDoor
open Go.ChangeShapes Go.WideShapes Go.ChangeAt Go.RowKit
set_option linter.unusedVariables false
set_option linter.unusedSimpArgs false

/-- What data of type t gives: a Lean value that the cells say, of which Q holds at its bulk. -/
def Opens {α : Type} (P : Program) (t : TypeId) (d : Rp α) (Q : α → Nat → Prop) : Prop :=
  ∀ (H : Type) (enc : TypeId × Value → H) (w : World) (base : Nat) (spare : Nat → Bool) (held : Bool) (fuel : Nat) (cs : List Value) (x : DataW H × List MemPlace),
    DataW.trod enc P w base spare held fuel t cs = some x → ∃ y, d.rep w (fun k => k < w.heap.size) y cs ∧ Q y (Rows.uptoBulk x.1)

theorem bulk_pos {H : Type} (d : DataW H) : 1 ≤ Rows.uptoBulk d := by
  cases d with
  | lit l => cases l <;> simp [Rows.uptoBulk]
  | nil => simp [Rows.uptoBulk]
  | ptr d => simp [Rows.uptoBulk]
  | slice elems spare => simp [Rows.uptoBulk]
  | agg parts => simp [Rows.uptoBulk]
  | iface t d => simp [Rows.uptoBulk]
  | map entries => simp [Rows.uptoBulk]
  | held h => simp [Rows.uptoBulk]
theorem bulk_part {H : Type} {d : DataW H} {l : List (DataW H)} (h : d ∈ l) : Rows.uptoBulk d ≤ Rows.uptoBulkAll l := by
  induction l with
  | nil => cases h
  | cons x r ih =>
    simp only [Rows.uptoBulkAll]
    cases List.mem_cons.1 h with
    | inl e => subst e; omega
    | inr e => have := ih e; omega
theorem bulk_len {H : Type} (l : List (DataW H)) : l.length ≤ Rows.uptoBulkAll l := by
  induction l with
  | nil => simp [Rows.uptoBulkAll]
  | cons x r ih => have := bulk_pos x; simp only [Rows.uptoBulkAll, List.length_cons]; omega

theorem opens_int {P : Program} {t : TypeId} {k : IntKind} (ht : P.underlying t = some (.int k)) : Opens P t (Rp.int k) (fun y _ => (Lit.int k y).wf = true) := by
  intro H enc w base spare held fuel cs x h
  obtain ⟨n, rfl, rfl, hw⟩ := DataW.trod_int ht h
  exact ⟨n, rfl, hw⟩
theorem opens_bool {P : Program} {t : TypeId} (ht : P.underlying t = some .bool) : Opens P t Rp.bool (fun _ _ => True) := by
  intro H enc w base spare held fuel cs x h
  obtain ⟨n, rfl, rfl⟩ := DataW.trod_bool ht h
  exact ⟨n, rfl, trivial⟩
theorem opens_string {P : Program} {t : TypeId} (ht : P.underlying t = some .string) : Opens P t Rp.string (fun y n => y.size ≤ n) := by
  intro H enc w base spare held fuel cs x h
  obtain ⟨s, rfl, rfl, _⟩ := DataW.trod_string ht h
  refine ⟨s, rfl, ?_⟩
  have e : s.data.toList.length = s.size := by rw [Array.length_toList]; rfl
  simp only [Rows.uptoBulk]
  omega

theorem choose_list {α : Type} (P : Nat → α → Prop) : ∀ n : Nat, (∀ i, i < n → ∃ y, P i y) → ∃ l : List α, l.length = n ∧ ∀ i y, l[i]? = some y → P i y := by
  intro n
  induction n with
  | zero => intro _; exact ⟨[], rfl, by simp⟩
  | succ n ih =>
    intro h
    obtain ⟨l, hl, hp⟩ := ih (fun i hi => h i (by omega))
    obtain ⟨y, hy⟩ := h n (by omega)
    refine ⟨l ++ [y], by simp [hl], fun i z hz => ?_⟩
    rcases Nat.lt_or_ge i l.length with hi | hi
    · rw [List.getElem?_append_left hi] at hz
      exact hp i z hz
    · rw [List.getElem?_append_right hi] at hz
      match hk : i - l.length, hz with
      | 0, hz =>
        simp [hk] at hz
        subst hz
        obtain rfl : i = n := by omega
        exact hy
      | k + 1, hz => simp [hk] at hz

def QSlice {α : Type} (Q : α → Nat → Prop) (l : List α) (n : Nat) : Prop := l.length < n ∧ ∀ y ∈ l, ∃ m, m < n ∧ Q y m

theorem opens_slice {α : Type} {P : Program} {t e : TypeId} {d : Rp α} {Q : α → Nat → Prop} (ht : P.underlying t = some (.slice e)) (hc : P.cellsOf e = d.sz) (hs : 0 < d.sz) (he : Opens P e d Q) : Opens P t d.slice (QSlice Q) := by
  intro H enc w base spare held fuel cs x h
  rcases Deep.open_slice ht h with ⟨rfl, rfl⟩ | ⟨a, len, cap, m, n, D, Pl, rfl, hb, hl, hm, hmm, rfl, hi⟩
  · exact ⟨[], ⟨none, 0, rfl, Nat.le_refl _, .inl rfl⟩, by simp [Rows.uptoBulk], by simp⟩
  · have hlm : len ≤ m := by rw [hmm]; split <;> omega
    obtain ⟨l, hll, hp⟩ := choose_list (fun i y => ∃ cs', w.cells? base (a.add (i * P.cellsOf e)) (P.cellsOf e) = some cs' ∧ d.rep w (fun k => k < w.heap.size) y cs' ∧ Q y (Rows.uptoBulk (D i))) len (fun i hlt => by
      obtain ⟨cs', h1, h2⟩ := hi i (by omega)
      obtain ⟨y, hy, hq⟩ := he H enc w base spare held n cs' _ h2
      exact ⟨y, cs', h1, hy, hq⟩)
    refine ⟨l, ⟨some a, cap, by rw [hll], by omega, ?_⟩, ?_, ?_⟩
    · cases l with
      | nil => exact .inl rfl
      | cons y r =>
        obtain ⟨cs', h1, h2, _⟩ := hp 0 y rfl
        obtain ⟨_, hcl, hat⟩ := World.cells?_some h1
        have h0 := hat 0 (by omega)
        have hlt : 0 < cs'.length := by omega
        rw [List.getElem?_eq_getElem hlt] at h0
        obtain ⟨b, o, sp⟩ := a
        have hsp : sp = none := by
          cases sp with
          | none => rfl
          | some q =>
            simp [World.cell?, Addr.add] at h0
            split at h0 <;> simp_all
        subst hsp
        have hadd : ∀ o j, (⟨b, o, none⟩ : Addr).add j = ⟨b, o + j, none⟩ := fun o j => by unfold Addr.add; split <;> simp_all
        have hblt : b < w.heap.size := by
          have := World.block_lt_of_cell? w _ h0
          rw [hadd, hadd] at this
          exact this
        refine .inr ⟨b, o, rfl, hblt, hblt, fun j z hz => ?_⟩
        obtain ⟨cs2, h3, h4, _⟩ := hp j z hz
        obtain ⟨_, hcl2, hat2⟩ := World.cells?_some h3
        refine ⟨cs2, h4, fun i u hu => ?_⟩
        have hi2 : i < cs2.length := (List.getElem?_eq_some_iff.1 hu).1
        have := hat2 i (by omega)
        rw [hadd, hadd, hc] at this
        rw [this, hu]
    · have h1 := bulk_len ((List.range len).map D)
      simp only [Rows.uptoBulk, List.length_map, List.length_range] at h1 ⊢
      omega
    · intro y hy
      obtain ⟨i, hi2⟩ := List.getElem?_of_mem hy
      obtain ⟨cs', _, _, hq⟩ := hp i y hi2
      have hil : i < len := by have := (List.getElem?_eq_some_iff.1 hi2).1; omega
      refine ⟨_, ?_, hq⟩
      have := bulk_part (d := D i) (l := (List.range len).map D) (List.mem_map.2 ⟨i, List.mem_range.2 hil, rfl⟩)
      simp only [Rows.uptoBulk]
      omega


theorem bulkAll_sum {H : Type} {α : Type} (cnt : α → Nat) (D : Nat → DataW H) : ∀ l : List α, (∀ i y, l[i]? = some y → cnt y ≤ Rows.uptoBulk (D i)) → (l.map cnt).sum ≤ Rows.uptoBulkAll ((List.range l.length).map D) := by
  have happ : ∀ a b : List (DataW H), Rows.uptoBulkAll (a ++ b) = Rows.uptoBulkAll a + Rows.uptoBulkAll b := by
    intro a b
    induction a with
    | nil => simp [Rows.uptoBulkAll]
    | cons x r ih => simp only [List.cons_append, Rows.uptoBulkAll, ih]; omega
  suffices hrev : ∀ q : List α, (∀ i y, q.reverse[i]? = some y → cnt y ≤ Rows.uptoBulk (D i)) → (q.reverse.map cnt).sum ≤ Rows.uptoBulkAll ((List.range q.reverse.length).map D) by
    intro l h
    have := hrev l.reverse
    rw [List.reverse_reverse] at this
    exact this h
  intro q
  induction q with
  | nil => intro _; simp
  | cons x q ih =>
    intro h
    rw [List.reverse_cons] at h ⊢
    generalize q.reverse = r at ih h
    have h1 := ih (fun i y hy => h i y (by rw [List.getElem?_append_left (List.getElem?_eq_some_iff.1 hy).1]; exact hy))
    have h2 := h r.length x (by simp)
    rw [List.map_append, List.sum_append, List.length_append, List.length_singleton, List.range_succ, List.map_append, happ]
    simp only [List.map_cons, List.map_nil, List.sum_cons, List.sum_nil, Rows.uptoBulkAll]
    omega

/-- A slice opened; the elements' law is asked for data of less bulk alone (a type that leads to itself). -/
theorem slice_opens {α : Type} {P : Program} {t e : TypeId} {d : Rp α} (ht : P.underlying t = some (.slice e)) (hc : P.cellsOf e = d.sz) (hs : 0 < d.sz) {H : Type} {enc : TypeId × Value → H} {w : World} {base : Nat} {spare : Nat → Bool} {held : Bool} {fuel : Nat} {cs : List Value} {x : DataW H × List MemPlace}
    (h : DataW.trod enc P w base spare held fuel t cs = some x) {Q : α → DataW H → Prop}
    (he : ∀ n cs' (y : DataW H × List MemPlace), Rows.uptoBulk y.1 < Rows.uptoBulk x.1 → DataW.trod enc P w base spare held n e cs' = some y → ∃ z, d.rep w (fun k => k < w.heap.size) z cs' ∧ Q z y.1) :
    ∃ l : List α, d.slice.rep w (fun k => k < w.heap.size) l cs ∧ l.length < Rows.uptoBulk x.1 ∧ ∃ D : Nat → DataW H, (∀ i z, l[i]? = some z → Q z (D i)) ∧ Rows.uptoBulkAll ((List.range l.length).map D) < Rows.uptoBulk x.1 := by
  rcases Deep.open_slice ht h with ⟨rfl, rfl⟩ | ⟨a, len, cap, m, n, D, Pl, rfl, hb, hl, hm, hmm, rfl, hi⟩
  · exact ⟨[], ⟨none, 0, rfl, Nat.le_refl _, .inl rfl⟩, by simp [Rows.uptoBulk], fun _ => .nil, by simp, by simp [Rows.uptoBulk, Rows.uptoBulkAll]⟩
  · have hlm : len ≤ m := by rw [hmm]; split <;> omega
    obtain ⟨l, hll, hp⟩ := choose_list (fun i y => ∃ cs', w.cells? base (a.add (i * P.cellsOf e)) (P.cellsOf e) = some cs' ∧ d.rep w (fun k => k < w.heap.size) y cs' ∧ Q y (D i)) len (fun i hlt => by
      obtain ⟨cs', h1, h2⟩ := hi i (by omega)
      have hb := bulk_part (d := D i) (l := (List.range len).map D) (List.mem_map.2 ⟨i, List.mem_range.2 hlt, rfl⟩)
      obtain ⟨y, hy, hq⟩ := he n cs' _ (by simp only [Rows.uptoBulk]; omega) h2
      exact ⟨y, cs', h1, hy, hq⟩)
    refine ⟨l, ⟨some a, cap, by rw [hll], by omega, ?_⟩, ?_, D, fun i z hz => ?_, ?_⟩
    · cases l with
      | nil => exact .inl rfl
      | cons y r =>
        obtain ⟨cs', h1, h2, _⟩ := hp 0 y rfl
        obtain ⟨_, hcl, hat⟩ := World.cells?_some h1
        have h0 := hat 0 (by omega)
        have hlt : 0 < cs'.length := by omega
        rw [List.getElem?_eq_getElem hlt] at h0
        obtain ⟨b, o, sp⟩ := a
        have hsp : sp = none := by
          cases sp with
          | none => rfl
          | some q =>
            simp [World.cell?, Addr.add] at h0
            split at h0 <;> simp_all
        subst hsp
        have hadd : ∀ o j, (⟨b, o, none⟩ : Addr).add j = ⟨b, o + j, none⟩ := fun o j => by unfold Addr.add; split <;> simp_all
        have hblt : b < w.heap.size := by
          have := World.block_lt_of_cell? w _ h0
          rw [hadd, hadd] at this
          exact this
        refine .inr ⟨b, o, rfl, hblt, hblt, fun j z hz => ?_⟩
        obtain ⟨cs2, h3, h4, _⟩ := hp j z hz
        obtain ⟨_, hcl2, hat2⟩ := World.cells?_some h3
        refine ⟨cs2, h4, fun i u hu => ?_⟩
        have hi2 : i < cs2.length := (List.getElem?_eq_some_iff.1 hu).1
        have := hat2 i (by omega)
        rw [hadd, hadd, hc] at this
        rw [this, hu]
    · have h1 := bulk_len ((List.range len).map D)
      simp only [Rows.uptoBulk, List.length_map, List.length_range] at h1 ⊢
      omega
    · obtain ⟨_, _, _, hq⟩ := hp i z hz
      exact hq
    · rw [hll]
      simp only [Rows.uptoBulk]
      omega
end Go.Proofs.YtfapglhdakhbeaaGreatDoor
