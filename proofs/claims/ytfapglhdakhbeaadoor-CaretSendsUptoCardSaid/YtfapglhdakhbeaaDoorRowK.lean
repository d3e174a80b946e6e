/- Rows: pieces, own rows of tokens. -/
import Derived.Test.YtfapglhdakhbeaaDoorKids
import Derived.Test.YtfapglhdakhbeaaDoorApp
namespace Go.Proofs.YtfapglhdakhbeaaDoor
open Go.RowKit
set_option linter.unusedVariables false
set_option linter.unusedSimpArgs false

theorem kdGo_len (i : Int) : ∀ (l : List Tok) (k d : Nat), (kdGo i k d l).length ≤ l.length := by
  intro l
  induction l with
  | nil => intro k d; simp [kdGo]
  | cons x r ih =>
    intro k d
    rw [kdGo]
    split
    · split
      · simp
      · have := ih (k + 1) (d - 1)
        simp only [List.length_cons]
        omega
    · rw [List.length_append]
      have h1 := ih (k + 1) (if x.k = 1 then d + 1 else d)
      have h2 : (if d = 0 ∧ 0 ≤ x.k ∧ x.k ≤ 3 then [(k : Int)] else []).length ≤ 1 := by split <;> simp
      simp only [List.length_cons]
      omega
theorem kidsL_len (l : List Tok) (i : Int) : (kidsL l i).length ≤ l.length := by
  unfold kidsL
  have := kdGo_len i (l.drop (i + 1).toNat) (i + 1).toNat 0
  rw [List.length_drop] at this
  omega
theorem Rp.own_empty0 {α : Type} (d : Rp α) {e : Nat} {w : World} {F : Nat → Prop} {b : Nat} (hb : w.heap[b]? = some (.cells #[] e (0, 0))) (hF : F b) : d.own e w F (.slice (some ⟨b, 0, none⟩) 0 0) [] :=
  ⟨[], ⟨by simp, .inr ⟨b, 0, #[], rfl, Nat.zero_le _, hb, Nat.le_refl _, Nat.zero_le _, by simp, by simp⟩⟩, fun k hk => by simp [Value.ownBlock] at hk; subst hk; exact hF, Reps.nil _ _⟩
theorem tok_own_to {e : Nat} {w : World} {F G : Nat → Prop} {v : Value} {xs : List Tok} (h : tokR.own e w F v xs) (hG : ∀ k, v.ownBlock = some k → G k) : tokR.own e w G v xs := by
  obtain ⟨inner, ho, hF, hr⟩ := h
  exact ⟨inner, ho, hG, hr⟩
theorem hat_ge {w : World} {v v1 : Value} {B : Nat} (h : v1.ownBlock = v.ownBlock ∨ ∃ b, v1.ownBlock = some b ∧ w.heap.size ≤ b) (h0 : ∀ q, v.ownBlock = some q → B ≤ q) (hB : B ≤ w.heap.size) : ∀ q, v1.ownBlock = some q → B ≤ q := by
  intro q hq
  rcases h with h | ⟨b, hb, hle⟩
  · rw [h] at hq
    exact h0 q hq
  · rw [hb] at hq
    injection hq with hq
    omega
theorem Rp.row_seg {α : Type} {d : Rp α} {w : World} {F : Nat → Prop} {b o : Nat} {xs : List α} (h : d.row w F (some ⟨b, o, none⟩) xs) (i n : Nat) : d.row w F (some ⟨b, o + i * d.sz, none⟩) ((xs.drop i).take n) := by
  rcases h with rfl | ⟨b', o', hA, hF, hb, hc⟩
  · exact .inl (by simp)
  · simp only [Option.some.injEq, Addr.mk.injEq] at hA
    obtain ⟨rfl, rfl, _⟩ := hA
    refine .inr ⟨b, o + i * d.sz, rfl, hF, hb, fun j x hx => ?_⟩
    rw [List.getElem?_take] at hx
    split at hx
    · rw [List.getElem?_drop] at hx
      obtain ⟨cs, h1, h2⟩ := hc (i + j) x hx
      refine ⟨cs, h1, fun t u hu => ?_⟩
      rw [Nat.add_assoc o, ← Nat.add_mul]
      exact h2 t u hu
    · cases hx
end Go.Proofs.YtfapglhdakhbeaaDoor
