/- What RegNexts asks, plain. -/
import Derived.Test.YtchgeaklaeoplaaRegOpt
import Derived.IntWalk
namespace Go.Proofs.Ytchgeaklaeoplaa
open Go.RowKit
set_option linter.unusedVariables false
set_option linter.unusedSimpArgs false

theorem Rp.row_take {α : Type} {d : Rp α} {w : World} {F : Nat → Prop} {A : Option Addr} {xs : List α} (h : d.row w F A xs) (k : Nat) : d.row w F A (xs.take k) := by
  rcases h with rfl | ⟨b, o, hA, hF, hb, hc⟩
  · exact .inl (by simp)
  · exact .inr ⟨b, o, hA, hF, hb, fun j x hx => hc j x (by rw [List.getElem?_take] at hx; split at hx; exact hx; cases hx)⟩

theorem Upd.keepB {S : Nat → Prop} {W W1 : World} {b : Nat} {o : Obj} (hu : Upd S W W1) (hb : W.heap[b]? = some o) (hn : ¬ S b) : W1.heap[b]? = some o := (hu.block b (Array.getElem?_eq_some_iff.1 hb).1 hn).trans hb
/-- What the law asks of the machine. -/
structure NxFacts (e : Ex) (g : List Grp) (word : List Int) (n : Nat) (L : List Int) : Prop where
  le : n ≤ word.length
  again : regBegins e g (word.take n) = n
  acc : regAccepts e g word = true → n = word.length
  nx : regNexts e g (word.take n) = L
  one : ∀ t : Nat, t < 16 → decide ((t : Int) ∈ L) = decide (regBegins e g (word.take n ++ [(t : Int)]) = n + 1)
  not : ∀ (t : Nat) (x : Int), word[n]? = some x → (t : Int) ∈ L → x ≠ (t : Int)
  len : L.length ≤ 16
  asc : ∀ i a b, L[i]? = some a → L[i + 1]? = some b → a < b
theorem take_take {α : Type} (l : List α) (n : Nat) : (l.take n).take n = l.take n := by rw [List.take_take, Nat.min_self]
theorem nx_facts {e : Ex} {g : List Grp} (h : regCheck e g = 0) (word : List Int) : NxFacts e g word (regBegins e g word) (regNexts e g (word.take (regBegins e g word))) := by
  have hn : regBegins e g word = (regRun e g word).2 := begins_eq h word
  obtain ⟨_, h1, h2, h3⟩ := run_spec h word
  rw [← hn] at h1 h2 h3
  generalize hN : regBegins e g word = n at *
  have hfull : (regRun e g (word.take n)).2 = n := by
    have := (run_full h (word.take n)).2 h2
    rw [this, List.length_take, Nat.min_eq_left h1]
  have hlen : (word.take n).length = n := by rw [List.length_take, Nat.min_eq_left h1]
  have hmem : ∀ t : Nat, ((t : Int) ∈ regNexts e g (word.take n)) ↔ t < 16 ∧ LiveE e g (word.take n ++ [(t : Int)]) := by
    intro t
    unfold regNexts
    rw [if_pos ⟨h, by rw [hfull, hlen]⟩, List.mem_map]
    constructor
    · rintro ⟨u, hu, he⟩
      obtain ⟨hu1, hu2⟩ := List.mem_filter.1 hu
      have : u = t := by omega
      subst this
      have := (next1_iff h (word.take n) u).1 hu2
      rw [hfull, take_take] at this
      exact ⟨List.mem_range.1 hu1, this⟩
    · rintro ⟨ht, hl⟩
      refine ⟨t, List.mem_filter.2 ⟨List.mem_range.2 ht, ?_⟩, rfl⟩
      rw [next1_iff h, hfull, take_take]
      exact hl
  refine ⟨h1, ?_, ?_, rfl, ?_, ?_, ?_, ?_⟩
  · rw [begins_eq h, hfull]
  · intro ha
    obtain ⟨_, x, hx, _⟩ := (accepts_iff word).1 ha
    rw [hn]
    exact (run_full h word).2 ⟨x, hx⟩
  · intro t ht
    rw [Bool.eq_iff_iff, decide_eq_true_eq, decide_eq_true_eq, hmem, begins_eq h]
    have e1 : (word.take n ++ [(t : Int)]).length = n + 1 := by rw [List.length_append, hlen]; rfl
    rw [← e1, run_full h]
    exact ⟨fun hh => hh.2, fun hh => ⟨ht, hh⟩⟩
  · rintro t x hx ht rfl
    have hl := (hmem t).1 ht
    have hlt := (List.getElem?_eq_some_iff.1 hx).1
    refine h3 hlt ?_
    rw [List.take_add_one, hx]
    exact hl.2
  · unfold regNexts
    split
    · have := List.length_filter_le (regNext1 e g (word.take n)) (List.range 16)
      rw [List.length_range] at this
      rw [List.length_map]
      exact this
    · simp
  · have hp : (regNexts e g (word.take n)).Pairwise (· < ·) := by
      unfold regNexts
      split
      · rw [List.pairwise_map]
        exact ((List.pairwise_lt_range (n := 16)).filter _).imp (fun h => by omega)
      · exact List.Pairwise.nil
    intro i a b ha hb
    obtain ⟨hi, rfl⟩ := List.getElem?_eq_some_iff.1 ha
    obtain ⟨hi2, rfl⟩ := List.getElem?_eq_some_iff.1 hb
    exact List.pairwise_iff_getElem.1 hp i (i + 1) hi hi2 (by omega)

end Go.Proofs.Ytchgeaklaeoplaa
