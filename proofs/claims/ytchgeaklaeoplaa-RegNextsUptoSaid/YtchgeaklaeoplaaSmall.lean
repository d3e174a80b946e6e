/- A set of places is small. -/
import Derived.Test.YtchgeaklaeoplaaStep
namespace Go.Proofs.Ytchgeaklaeoplaa
open Go.RowKit
open Go.Maps (Keyed)
set_option linter.unusedVariables false
set_option linter.unusedSimpArgs false

theorem small_list : ∀ (T : Nat) (l : List Int), l.Pairwise (· ≠ ·) → (∀ x ∈ l, -1 ≤ x ∧ x < T) → l.length ≤ T + 1 := by
  intro T
  induction T with
  | zero =>
    intro l hp hl
    match l, hp, hl with
    | [], _, _ => simp
    | [x], _, _ => simp
    | x :: y :: r, hp, hl =>
      have h1 := hl x (by simp)
      have h2 := hl y (by simp)
      have h3 := (List.pairwise_cons.1 hp).1 y (by simp)
      omega
  | succ T ih =>
    intro l hp hl
    have h1 := ih (l.filter (fun x => decide (x ≠ (T : Int)))) (hp.filter _) (fun x hx => by
      obtain ⟨ha, hb⟩ := List.mem_filter.1 hx
      have := hl x ha
      simp at hb
      omega)
    have h2 : l.length ≤ (l.filter (fun x => decide (x ≠ (T : Int)))).length + 1 := by
      clear ih h1 hl
      induction l with
      | nil => simp
      | cons x r ih =>
        obtain ⟨h3, h4⟩ := List.pairwise_cons.1 hp
        by_cases hx : x = (T : Int)
        · have : r.filter (fun x => decide (x ≠ (T : Int))) = r := List.filter_eq_self.2 (fun y hy => by have := h3 y hy; simp; omega)
          rw [List.filter_cons_of_neg (by simp [hx]), this]
          simp
        · rw [List.filter_cons_of_pos (by simp [hx])]
          have := ih h4
          simp only [List.length_cons]
          omega
    omega

open Go.WideElems (Fit rd rg pl rd_val rd_key rg_of) in
/-- A set of places has at most so many. -/
theorem SetM.small {w : World} {b n : Nat} {S : Int → Bool} (h : SetM w b n S) (T : Nat) (hT : ∀ x, (Lit.int .i64 x).wf = true → S x = true → -1 ≤ x ∧ x < T) : SetM w b (T + 1) S := by
  obtain ⟨D, hD, hS⟩ := h
  obtain ⟨es', hes, hpw, _⟩ := hD.entries keyed_int
  obtain ⟨es, clock, hb, F, hn, hDe⟩ := hD
  rw [hDe] at hes
  injection hes with hes
  have hk : ∀ p ∈ es', ∃ x, p.1 = .int .i64 x ∧ (Lit.int .i64 x).wf = true := by
    intro p hp
    rw [← hes] at hp
    obtain ⟨x, hx, rfl⟩ := List.mem_map.1 (mem_sorted.1 hp)
    obtain ⟨y, hy⟩ := F.reads x hx
    rw [rg_of hy]
    obtain ⟨z, _, hz, hw⟩ := Maps.keyOf_int_inv Try.underlying3 (rd_key hy)
    exact ⟨z, hz, hw⟩
  have hlen : es'.length = es.size := by rw [← hes, length_sorted]; simp
  let f : Lit × DataW Unit → Int := fun p => match p.1 with | .int _ x => x | _ => 0
  have hf : ∀ p ∈ es', p.1 = .int .i64 (f p) := by
    intro p hp
    obtain ⟨x, hx, _⟩ := hk p hp
    simp [f, hx]
  have hs := small_list T (es'.map f) (by
    rw [List.pairwise_map]
    exact hpw.imp_of_mem (fun {p q} hp hq hne he => hne (by rw [hf p hp, hf q hq, he]))) (fun x hx => by
    obtain ⟨p, hp, rfl⟩ := List.mem_map.1 hx
    obtain ⟨x, hx', hw⟩ := hk p hp
    have e : f p = x := by simp [f, hx']
    rw [e]
    refine hT x hw ?_
    rw [← hS x hw, hDe, hes, Maps.has_eq, List.any_eq_true]
    exact ⟨p, hp, by rw [hx']; simp [Lit.sameKey]⟩)
  rw [List.length_map] at hs
  exact ⟨D, ⟨es, clock, hb, F, by omega, hDe⟩, hS⟩
end Go.Proofs.Ytchgeaklaeoplaa
