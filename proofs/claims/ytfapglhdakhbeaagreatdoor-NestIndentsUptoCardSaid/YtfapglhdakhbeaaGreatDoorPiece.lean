/- Pieces that open and shut; what is open at a place, as types (plain). -/
import Derived.Test.YtfapglhdakhbeaaGreatDoorMarkL
import Derived.Test.YtfapglhdakhbeaaGreatDoorMayP
import Derived.Test.YtfapglhdakhbeaaGreatDoorRowK
namespace Go.Proofs.YtfapglhdakhbeaaGreatDoor
open Go.RowKit
set_option linter.unusedVariables false
set_option linter.unusedSimpArgs false

/-! ### Pieces -/
/-- How deep behind a piece that begins so deep; none: it falls below. -/
def dpt : Nat → List Tok → Option Nat
  | n, [] => some n
  | n, x :: r => if x.k = 1 then dpt (n + 1) r else if x.k = 2 then (if n = 0 then none else dpt (n - 1) r) else dpt n r
/-- The types of what is open, the innermost first. -/
def tstk : List Tok → List Int → List Int
  | [], s => s
  | x :: r, s => if x.k = 1 then tstk r (x.t :: s) else if x.k = 2 then tstk r s.tail else tstk r s
theorem dpt_app : ∀ (a b : List Tok) (n : Nat), dpt n (a ++ b) = (dpt n a).bind (fun m => dpt m b) := by
  intro a b
  induction a with
  | nil => intro n; rfl
  | cons x r ih =>
    intro n
    rw [List.cons_append, dpt, dpt]
    split
    · exact ih _
    · split
      · split
        · rfl
        · exact ih _
      · exact ih _
theorem tstk_app : ∀ (a b : List Tok) (s : List Int), tstk (a ++ b) s = tstk b (tstk a s) := by
  intro a b
  induction a with
  | nil => intro s; rfl
  | cons x r ih =>
    intro s
    rw [List.cons_append, tstk, tstk]
    split
    · exact ih _
    · split <;> exact ih _
theorem dpt_fc : ∀ (l : List Tok) (n m : Nat), fcRun n l = some m → dpt n l = some m := by
  intro l
  induction l with
  | nil => intro n m h; exact h
  | cons x r ih =>
    intro n m h
    unfold fcRun at h
    unfold dpt
    split at h
    · cases h
    · by_cases h2 : x.k = 2
      · rw [if_pos h2] at h
        rw [if_neg (by omega), if_pos h2]
        split at h
        · cases h
        · rename_i h0
          rw [if_neg h0]
          exact ih _ _ h
      · rw [if_neg h2] at h
        by_cases h1 : x.k = 1
        · rw [if_pos h1] at h ⊢
          split at h
          · cases h
          · exact ih _ _ h
        · rw [if_neg h1] at h
          rw [if_neg h1, if_neg h2]
          exact ih _ _ h
/-- A piece that does not fall below: what it opens comes ahead of what was open. -/
theorem dpt_tstk : ∀ (B : List Tok) (a b : Nat), dpt a B = some b → ∀ u : List Int, u.length = a → ∃ v : List Int, v.length = b ∧ ∀ S, tstk B (u ++ S) = v ++ S := by
  intro B
  induction B with
  | nil =>
    intro a b h u hu
    simp only [dpt, Option.some.injEq] at h
    exact ⟨u, by omega, fun S => rfl⟩
  | cons x r ih =>
    intro a b h u hu
    unfold dpt at h
    unfold tstk
    by_cases h1 : x.k = 1
    · rw [if_pos h1] at h
      obtain ⟨v, hv, hS⟩ := ih _ _ h (x.t :: u) (by simp [hu])
      exact ⟨v, hv, fun S => by rw [if_pos h1]; exact hS S⟩
    · rw [if_neg h1] at h
      by_cases h2 : x.k = 2
      · rw [if_pos h2] at h
        split at h
        · cases h
        · obtain ⟨y, u', rfl⟩ : ∃ y u', u = y :: u' := by
            cases u with
            | nil => simp at hu; omega
            | cons y u' => exact ⟨y, u', rfl⟩
          obtain ⟨v, hv, hS⟩ := ih _ _ h u' (by simp at hu; omega)
          exact ⟨v, hv, fun S => by rw [if_neg h1, if_pos h2]; exact hS S⟩
      · rw [if_neg h2] at h
        obtain ⟨v, hv, hS⟩ := ih _ _ h u hu
        exact ⟨v, hv, fun S => by rw [if_neg h1, if_neg h2]; exact hS S⟩
theorem dpt_bal {B : List Tok} (h : dpt 0 B = some 0) (S : List Int) : tstk B S = S := by
  obtain ⟨v, hv, hS⟩ := dpt_tstk B 0 0 h [] rfl
  have : v = [] := List.eq_nil_of_length_eq_zero hv
  have h2 := hS S
  rw [this] at h2
  exact h2
theorem dpt_up : ∀ (B : List Tok) (a b n : Nat), dpt a B = some b → dpt (a + n) B = some (b + n) := by
  intro B
  induction B with
  | nil =>
    intro a b n h
    simp only [dpt, Option.some.injEq] at h ⊢
    omega
  | cons x r ih =>
    intro a b n h
    unfold dpt at h ⊢
    by_cases h1 : x.k = 1
    · rw [if_pos h1] at h ⊢
      have := ih _ _ n h
      rwa [show a + 1 + n = a + n + 1 by omega] at this
    · rw [if_neg h1] at h ⊢
      by_cases h2 : x.k = 2
      · rw [if_pos h2] at h ⊢
        split at h
        · cases h
        · rename_i h0
          rw [if_neg (by omega)]
          have := ih _ _ n h
          rwa [show a - 1 + n = a + n - 1 by omega] at this
      · rw [if_neg h2] at h ⊢
        exact ih _ _ n h
/-- The same of the places. -/
theorem dpt_stk : ∀ (B : List Tok) (a b : Nat), dpt a B = some b → ∀ (k : Nat) (u : List Int), u.length = a → ∀ S : List Int, stkGo k B (S ++ u) = S ++ stkGo k B u ∧ (stkGo k B u).length = b := by
  intro B
  induction B with
  | nil =>
    intro a b h k u hu S
    simp only [dpt, Option.some.injEq] at h
    exact ⟨rfl, by simp only [stkGo]; omega⟩
  | cons x r ih =>
    intro a b h k u hu S
    unfold dpt at h
    simp only [stkGo, stkStep]
    by_cases h1 : x.k = 1
    · rw [if_pos h1] at h
      simp only [if_pos h1, List.append_assoc]
      exact ih _ _ h _ _ (by simp [hu]) S
    · rw [if_neg h1] at h
      simp only [if_neg h1]
      by_cases h2 : x.k = 2
      · rw [if_pos h2] at h
        split at h
        · cases h
        · rename_i h0
          simp only [if_pos h2]
          have hne : u ≠ [] := by intro e; subst e; simp at hu; omega
          rw [List.dropLast_append_of_ne_nil hne]
          exact ih _ _ h _ _ (by rw [List.length_dropLast]; omega) S
      · rw [if_neg h2] at h
        simp only [if_neg h2]
        exact ih _ _ h _ _ hu S
theorem stk_shift : ∀ (B : List Tok) (k d : Nat) (u : List Int), stkGo (k + d) B (u.map (· + (d : Int))) = (stkGo k B u).map (· + (d : Int)) := by
  intro B
  induction B with
  | nil => intro k d u; rfl
  | cons x r ih =>
    intro k d u
    simp only [stkGo, stkStep]
    by_cases h1 : x.k = 1
    · simp only [if_pos h1]
      have := ih (k + 1) d (u ++ [(k : Int)])
      rw [List.map_append, show k + 1 + d = k + d + 1 by omega] at this
      rw [← this]
      simp
    · simp only [if_neg h1]
      by_cases h2 : x.k = 2
      · simp only [if_pos h2]
        have := ih (k + 1) d u.dropLast
        rw [show k + 1 + d = k + d + 1 by omega, List.map_dropLast] at this
        exact this
      · simp only [if_neg h2]
        have := ih (k + 1) d u
        rw [show k + 1 + d = k + d + 1 by omega] at this
        exact this
/-- The partner of what is open: behind a piece that is shut. -/
theorem pt_piece : ∀ (B : List Tok) (n j : Nat) (c : Tok) (R : List Tok), dpt n B = some 0 → c.k = 2 → ptGo j ((n : Int) + 1) (B ++ c :: R) = some (j + B.length) := by
  intro B
  induction B with
  | nil =>
    intro n j c R h hc
    simp only [dpt, Option.some.injEq] at h
    subst h
    simp only [List.nil_append, ptGo]
    rw [if_neg (by omega), if_pos hc, if_pos (by omega)]
    rfl
  | cons x r ih =>
    intro n j c R h hc
    unfold dpt at h
    rw [List.cons_append, ptGo]
    by_cases h1 : x.k = 1
    · rw [if_pos h1] at h ⊢
      have := ih (n + 1) (j + 1) c R h hc
      rw [show ((n + 1 : Nat) : Int) + 1 = (n : Int) + 1 + 1 by omega] at this
      rw [this, List.length_cons]
      congr 1
      omega
    · rw [if_neg h1] at h ⊢
      by_cases h2 : x.k = 2
      · rw [if_pos h2] at h ⊢
        split at h
        · cases h
        · rename_i h0
          rw [if_neg (by omega)]
          have := ih (n - 1) (j + 1) c R h hc
          rw [show ((n - 1 : Nat) : Int) + 1 = (n : Int) + 1 - 1 by omega] at this
          rw [this, List.length_cons]
          congr 1
          omega
      · rw [if_neg h2] at h ⊢
        rw [ih n (j + 1) c R h hc, List.length_cons]
        congr 1
        omega
theorem pt_split : ∀ (L : List Tok) (n j k : Nat), ptGo j ((n : Int) + 1) L = some k → ∃ B c R, L = B ++ c :: R ∧ c.k = 2 ∧ dpt n B = some 0 ∧ k = j + B.length := by
  intro L
  induction L with
  | nil => intro n j k h; cases h
  | cons x r ih =>
    intro n j k h
    rw [ptGo] at h
    by_cases h1 : x.k = 1
    · rw [if_pos h1] at h
      have h' : ptGo (j + 1) (((n + 1 : Nat) : Int) + 1) r = some k := by rw [show ((n + 1 : Nat) : Int) + 1 = (n : Int) + 1 + 1 by omega]; exact h
      obtain ⟨B, c, R, rfl, hc, hB, hk⟩ := ih _ _ _ h'
      exact ⟨x :: B, c, R, rfl, hc, by rw [dpt, if_pos h1]; exact hB, by simp; omega⟩
    · rw [if_neg h1] at h
      by_cases h2 : x.k = 2
      · rw [if_pos h2] at h
        split at h
        · simp only [Option.some.injEq] at h
          exact ⟨[], x, r, rfl, h2, by rw [dpt]; congr 1; omega, by simp; omega⟩
        · have h' : ptGo (j + 1) (((n - 1 : Nat) : Int) + 1) r = some k := by rw [show ((n - 1 : Nat) : Int) + 1 = (n : Int) + 1 - 1 by omega]; exact h
          obtain ⟨B, c, R, rfl, hc, hB, hk⟩ := ih _ _ _ h'
          exact ⟨x :: B, c, R, rfl, hc, by rw [dpt, if_neg h1, if_pos h2, if_neg (by omega)]; exact hB, by simp; omega⟩
      · rw [if_neg h2] at h
        obtain ⟨B, c, R, rfl, hc, hB, hk⟩ := ih _ _ _ h
        exact ⟨x :: B, c, R, rfl, hc, by rw [dpt, if_neg h1, if_neg h2]; exact hB, by simp; omega⟩
/-- What stands from what is open to its partner. -/
theorem part_piece {l : List Tok} {x : Nat} {o : Tok} {e : Int} (hx : l[x]? = some o) (h1 : o.k = 1) (he : partL l x = e) (h0 : 0 ≤ e) : ∃ B c R, l.drop x = o :: (B ++ c :: R) ∧ c.k = 2 ∧ dpt 0 B = some 0 ∧ e = (x : Int) + 1 + B.length := by
  obtain ⟨k, hk, hp, _⟩ := part_some he h0
  rw [drop_cons hx, ptGo, if_pos h1] at hp
  obtain ⟨B, c, R, h3, h4, h5, h6⟩ := pt_split (l.drop (x + 1)) 0 1 k (by simpa using hp)
  exact ⟨B, c, R, by rw [drop_cons hx, h3], h4, h5, by omega⟩
theorem piece_part {l : List Tok} {x : Nat} {o c : Tok} {B R : List Tok} (hd : l.drop x = o :: (B ++ c :: R)) (h1 : o.k = 1) (hc : c.k = 2) (hB : dpt 0 B = some 0) : partL l x = (x : Int) + 1 + B.length := by
  unfold partL
  have : ptGo 0 0 (l.drop x) = some (1 + B.length) := by
    rw [hd, ptGo, if_pos h1]
    have := pt_piece B 0 1 c R hB hc
    simpa using this
  rw [this]
  simp only
  omega

/-! ### What is around a place -/
theorem stk_snoc {l : List Tok} {n : Nat} {x : Tok} (hx : l[n]? = some x) : stkGo 0 (l.take (n + 1)) [] = stkStep n x (stkGo 0 (l.take n) []) := by
  have hn := (List.getElem?_eq_some_iff.1 hx).1
  have : l.take (n + 1) = l.take n ++ [x] := by rw [List.take_add_one, hx]; rfl
  rw [this, stkGo_app]
  simp only [stkGo, List.length_take, Nat.zero_add]
  rw [Nat.min_eq_left (by omega)]
/-- Of a document: the innermost that is open, and what stands behind it. -/
theorem around_piece {l : List Tok} (hd : dpt 0 l = some 0) : ∀ (n : Nat), n ≤ l.length → ∀ (s : List Int) (p : Int), stkGo 0 (l.take n) [] = s ++ [p] → ∃ (i : Nat) (o : Tok) (B : List Tok), p = i ∧ i < n ∧ l[i]? = some o ∧ o.k = 1 ∧ l.take n = l.take i ++ o :: B ∧ dpt 0 B = some 0 ∧ stkGo 0 (l.take i) [] = s := by
  intro n
  induction n using Nat.strongRecOn with
  | _ n ih =>
    intro hn s p hs
    cases n with
    | zero => simp [stkGo] at hs
    | succ n =>
      obtain ⟨x, hx⟩ : ∃ x, l[n]? = some x := ⟨_, List.getElem?_eq_getElem (by omega)⟩
      have htk : l.take (n + 1) = l.take n ++ [x] := by rw [List.take_add_one, hx]; rfl
      rw [stk_snoc hx] at hs
      unfold stkStep at hs
      by_cases h1 : x.k = 1
      · rw [if_pos h1] at hs
        obtain ⟨rfl, h2⟩ := List.append_inj' hs rfl
        simp only [List.cons.injEq, and_true] at h2
        exact ⟨n, x, [], h2.symm, by omega, hx, h1, htk, rfl, rfl⟩
      · rw [if_neg h1] at hs
        by_cases h2 : x.k = 2
        · rw [if_pos h2] at hs
          -- one is open ahead of it
          have hd2 := hd
          rw [← List.take_append_drop n l, dpt_app] at hd2
          obtain ⟨m, hm, hm2⟩ := Option.bind_eq_some_iff.1 hd2
          rw [drop_cons hx, dpt, if_neg h1, if_pos h2] at hm2
          have hm0 : m ≠ 0 := by intro e; rw [if_pos e] at hm2; cases hm2
          obtain ⟨_, hlen⟩ := dpt_stk (l.take n) 0 m hm 0 [] rfl []
          have hne : stkGo 0 (l.take n) [] ≠ [] := by intro e; rw [e] at hlen; simp at hlen; omega
          have hlast := List.dropLast_concat_getLast hne
          rw [hs] at hlast
          obtain ⟨i, o, B, hi, hin, hio, ho1, hpi, hB, hsi⟩ := ih n (by omega) (by omega) (s ++ [p]) _ hlast.symm
          obtain ⟨i2, o2, B2, hi2, hin2, hio2, ho2, hpi2, hB2, hsi2⟩ := ih i (by omega) (by omega) s p hsi
          refine ⟨i2, o2, B2 ++ o :: (B ++ [x]), hi2, by omega, hio2, ho2, ?_, ?_, hsi2⟩
          · rw [htk, hpi, hpi2]
            simp
          · rw [dpt_app, hB2]
            simp only [Option.bind_some]
            rw [dpt, if_pos ho1, dpt_app]
            have := dpt_up B 0 0 1 hB
            simp only [Nat.zero_add] at this ⊢
            rw [this]
            simp only [Option.bind_some]
            rw [dpt, if_neg h1, if_pos h2, if_neg (by decide)]
            rfl
        · rw [if_neg h2] at hs
          obtain ⟨i, o, B, hi, hin, hio, ho1, hpi, hB, hsi⟩ := ih n (by omega) (by omega) s p hs
          refine ⟨i, o, B ++ [x], hi, by omega, hio, ho1, by rw [htk, hpi]; simp, ?_, hsi⟩
          rw [dpt_app, hB]
          simp only [Option.bind_some]
          rw [dpt, if_neg h1, if_neg h2]
          rfl
/-- What is open, as types. -/
theorem tstk_stk {l : List Tok} : ∀ n, n ≤ l.length → tstk (l.take n) [] = ((stkGo 0 (l.take n) []).map (tyAt l)).reverse := by
  intro n
  induction n with
  | zero => intro _; rfl
  | succ n ih =>
    intro hn
    obtain ⟨x, hx⟩ : ∃ x, l[n]? = some x := ⟨_, List.getElem?_eq_getElem (by omega)⟩
    have htk : l.take (n + 1) = l.take n ++ [x] := by rw [List.take_add_one, hx]; rfl
    rw [stk_snoc hx, htk, tstk_app, ih (by omega)]
    unfold stkStep
    simp only [tstk]
    by_cases h1 : x.k = 1
    · rw [if_pos h1, if_pos h1, List.map_append, List.reverse_append]
      simp [tyAt, hx]
    · rw [if_neg h1, if_neg h1]
      by_cases h2 : x.k = 2
      · rw [if_pos h2, if_pos h2, List.map_dropLast, ← List.tail_reverse]
      · rw [if_neg h2, if_neg h2]
/-- The types of what is around, one after the other: what is open at what is open. -/
theorem around_tstk {l : List Tok} {i n : Nat} {o : Tok} {B : List Tok} (h : l.take n = l.take i ++ o :: B) (h1 : o.k = 1) (hB : dpt 0 B = some 0) : tstk (l.take n) [] = o.t :: tstk (l.take i) [] := by
  rw [h, tstk_app, tstk, if_pos h1, dpt_bal hB]

end Go.Proofs.YtfapglhdakhbeaaGreatDoor
