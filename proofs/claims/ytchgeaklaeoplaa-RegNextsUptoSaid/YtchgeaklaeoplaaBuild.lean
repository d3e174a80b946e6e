/- reg.machine.build: the machine of a tree. -/
import Derived.Test.YtchgeaklaeoplaaMach2
import Derived.Test.YtchgeaklaeoplaaHeld
import Derived.Test.YtchgeaklaeoplaaReg
namespace Go.Proofs.Ytchgeaklaeoplaa
open Go.RowKit
set_option linter.unusedVariables false
set_option linter.unusedSimpArgs false

structure Part where
  none : Bool
  first : List Int
  last : List Int
abbrev St := List (List Int) × List (List Int)
mutual
/-- What build reckons: the types of the places, who follows whom; the part. -/
def glu (g : List Grp) : Ex → St → St × Part
  | .mk k nm l, s =>
    if k = 0 then (s, ⟨true, [], []⟩)
    else if k = 1 then ((s.1 ++ [typesOf g nm], s.2 ++ [[]]), ⟨false, [(s.1.length : Int)], [(s.1.length : Int)]⟩)
    else if k = 3 then gluAlt g l s ⟨false, [], []⟩
    else if k = 2 then gluSeq g l s ⟨true, [], []⟩
    else
      let r := gluOne g l s
      ((r.1.1, if k ≠ 6 then joinF r.1.2 r.2.last r.2.first else r.1.2), ⟨r.2.none || decide (k ≠ 5), r.2.first, r.2.last⟩)
def gluOne (g : List Grp) : List Ex → St → St × Part
  | [], s => (s, ⟨true, [], []⟩)
  | x :: _, s => glu g x s
def gluAlt (g : List Grp) : List Ex → St → Part → St × Part
  | [], s, p => (s, p)
  | x :: r, s, p =>
    let q := glu g x s
    gluAlt g r q.1 ⟨p.none || q.2.none, p.first ++ q.2.first, p.last ++ q.2.last⟩
def gluSeq (g : List Grp) : List Ex → St → Part → St × Part
  | [], s, p => (s, p)
  | x :: r, s, p =>
    let q := glu g x s
    gluSeq g r (q.1.1, joinF q.1.2 p.last q.2.first) ⟨p.none && q.2.none, if p.none = true then p.first ++ q.2.first else p.first, if q.2.none = true then p.last ++ q.2.last else q.2.last⟩
end

/-- How great it all is. -/
structure Bd (s r : St) (p : Part) (n : Nat) : Prop where
  len : s.2.length = s.1.length → r.2.length = r.1.length
  lo : s.1.length ≤ r.1.length
  hi : r.1.length ≤ s.1.length + n
  first : ∀ a ∈ p.first, 0 ≤ a ∧ a < r.1.length
  last : ∀ a ∈ p.last, 0 ≤ a ∧ a < r.1.length
  fl : p.first.length ≤ n
  ll : p.last.length ≤ n
theorem Bd.up {s r r' : St} {p : Part} {n m : Nat} (h : Bd s r p n) (hl : r'.1.length = r.1.length) (hf : r'.2.length = r.2.length) (hm : n ≤ m) : Bd s r' p m :=
  ⟨fun e => by rw [hf, hl]; exact h.len e, by rw [hl]; exact h.lo, by rw [hl]; have := h.hi; omega, fun a ha => by rw [hl]; exact h.first a ha, fun a ha => by rw [hl]; exact h.last a ha, Nat.le_trans h.fl hm, Nat.le_trans h.ll hm⟩
/-- A part of what is already there, and what a tree adds. -/
theorem Bd.next {s0 s r : St} {p q : Part} {n m : Nat} (h : Bd s0 s p n) (h' : Bd s r q m) (r' : St) (hl : r'.1.length = r.1.length) (hf : r'.2.length = r.2.length) (t : Part) (ht : (∀ a ∈ t.first, a ∈ p.first ∨ a ∈ q.first) ∧ (∀ a ∈ t.last, a ∈ p.last ∨ a ∈ q.last) ∧ t.first.length ≤ p.first.length + q.first.length ∧ t.last.length ≤ p.last.length + q.last.length) : Bd s0 r' t (n + m) := by
  obtain ⟨t1, t2, t3, t4⟩ := ht
  have hlo := h'.lo
  refine ⟨fun e => by rw [hf, hl]; exact h'.len (h.len e), by rw [hl]; exact Nat.le_trans h.lo h'.lo, by rw [hl]; have := h.hi; have := h'.hi; omega, fun a ha => ?_, fun a ha => ?_, by have := h.fl; have := h'.fl; omega, by have := h.ll; have := h'.ll; omega⟩
  · rw [hl]
    rcases t1 a ha with h1 | h1
    · have := h.first a h1; omega
    · exact h'.first a h1
  · rw [hl]
    rcases t2 a ha with h1 | h1
    · have := h.last a h1; omega
    · exact h'.last a h1
theorem mem_ite_l {c : Bool} {a : Int} {p q : List Int} (h : a ∈ (if c = true then p ++ q else p)) : a ∈ p ∨ a ∈ q := by
  split at h
  · exact List.mem_append.1 h
  · exact .inl h
theorem mem_ite_r {c : Bool} {a : Int} {p q : List Int} (h : a ∈ (if c = true then p ++ q else q)) : a ∈ p ∨ a ∈ q := by
  split at h
  · exact List.mem_append.1 h
  · exact .inr h
theorem len_ite_l {c : Bool} {p q : List Int} : (if c = true then p ++ q else p).length ≤ p.length + q.length := by split <;> simp
theorem len_ite_r {c : Bool} {p q : List Int} : (if c = true then p ++ q else q).length ≤ p.length + q.length := by split <;> simp
mutual
theorem glu_bd (g : List Grp) : ∀ (e : Ex) (s : St), Bd s (glu g e s).1 (glu g e s).2 e.cnt
  | .mk k nm l, s => by
    rw [glu]
    by_cases h0 : k = 0
    · rw [if_pos h0]
      exact ⟨id, Nat.le_refl _, by simp, by simp, by simp, by simp, by simp⟩
    · rw [if_neg h0]
      by_cases h1 : k = 1
      · rw [if_pos h1]
        exact ⟨fun e => by simp [e], by simp, by simp only [Ex.cnt, List.length_append, List.length_singleton]; omega, fun a ha => by simp at ha ⊢; omega, fun a ha => by simp at ha ⊢; omega, by simp [Ex.cnt], by simp [Ex.cnt]⟩
      · rw [if_neg h1]
        by_cases h3 : k = 3
        · rw [if_pos h3]
          have := gluAlt_bd g l s s ⟨false, [], []⟩ 0 ⟨id, Nat.le_refl _, by simp, by simp, by simp, by simp, by simp⟩
          exact this.up rfl rfl (by simp [Ex.cnt])
        · rw [if_neg h3]
          by_cases h2 : k = 2
          · rw [if_pos h2]
            have := gluSeq_bd g l s s ⟨true, [], []⟩ 0 ⟨id, Nat.le_refl _, by simp, by simp, by simp, by simp, by simp⟩
            exact this.up rfl rfl (by simp [Ex.cnt])
          · rw [if_neg h2]
            have := gluOne_bd g l s
            refine (Bd.up (r' := ((gluOne g l s).1.1, if k ≠ 6 then joinF (gluOne g l s).1.2 (gluOne g l s).2.last (gluOne g l s).2.first else (gluOne g l s).1.2)) this rfl (by split <;> simp [joinF_len]) (m := Ex.cnt (.mk k nm l)) (by simp [Ex.cnt])) |> fun h => ⟨h.len, h.lo, h.hi, h.first, h.last, h.fl, h.ll⟩
theorem gluOne_bd (g : List Grp) : ∀ (l : List Ex) (s : St), Bd s (gluOne g l s).1 (gluOne g l s).2 (Ex.cnts l)
  | [], s => ⟨id, Nat.le_refl _, by simp [gluOne], by simp [gluOne], by simp [gluOne], by simp [gluOne], by simp [gluOne]⟩
  | x :: r, s => (glu_bd g x s).up rfl rfl (by simp [Ex.cnts])
theorem gluAlt_bd (g : List Grp) : ∀ (l : List Ex) (s0 s : St) (p : Part) (n : Nat), Bd s0 s p n → Bd s0 (gluAlt g l s p).1 (gluAlt g l s p).2 (n + Ex.cnts l)
  | [], s0, s, p, n, h => h.up rfl rfl (by simp)
  | x :: r, s0, s, p, n, h => by
    have h2 := Bd.next h (glu_bd g x s) (glu g x s).1 rfl rfl ⟨p.none || (glu g x s).2.none, p.first ++ (glu g x s).2.first, p.last ++ (glu g x s).2.last⟩ ⟨by simp, by simp, by simp, by simp⟩
    have h3 := gluAlt_bd g r s0 _ _ _ h2
    rw [gluAlt]
    exact h3.up rfl rfl (by simp [Ex.cnts]; omega)
theorem gluSeq_bd (g : List Grp) : ∀ (l : List Ex) (s0 s : St) (p : Part) (n : Nat), Bd s0 s p n → Bd s0 (gluSeq g l s p).1 (gluSeq g l s p).2 (n + Ex.cnts l)
  | [], s0, s, p, n, h => h.up rfl rfl (by simp)
  | x :: r, s0, s, p, n, h => by
    have h2 := Bd.next h (glu_bd g x s) ((glu g x s).1.1, joinF (glu g x s).1.2 p.last (glu g x s).2.first) rfl (joinF_len _ _ _) ⟨p.none && (glu g x s).2.none, if p.none = true then p.first ++ (glu g x s).2.first else p.first, if (glu g x s).2.none = true then p.last ++ (glu g x s).2.last else (glu g x s).2.last⟩
      ⟨fun a ha => mem_ite_l ha, fun a ha => mem_ite_r ha, len_ite_l, len_ite_r⟩
    have h3 := gluSeq_bd g r s0 _ _ _ h2
    rw [gluSeq]
    exact h3.up rfl rfl (by simp [Ex.cnts]; omega)
end

mutual
theorem glu_fb (g : List Grp) : ∀ (e : Ex) (s : St) (b : Nat), (∀ x ∈ s.2, x.length ≤ b) → e.cnt ≤ 200 → ∀ x ∈ (glu g e s).1.2, x.length + 40000 ≤ b + 80000 * e.cnt
  | .mk k nm l, s, b, hb, hc => by
    have hc1 : Ex.cnt (.mk k nm l) = 1 + Ex.cnts l := by simp [Ex.cnt]
    rw [glu]
    by_cases h0 : k = 0
    · rw [if_pos h0]
      intro x hx
      have := hb x hx
      omega
    · rw [if_neg h0]
      by_cases h1 : k = 1
      · rw [if_pos h1]
        intro x hx
        rcases List.mem_append.1 hx with hx | hx
        · have := hb x hx; omega
        · simp at hx; subst hx; simp; omega
      · rw [if_neg h1]
        by_cases h3 : k = 3
        · rw [if_pos h3]
          intro x hx
          have := gluAlt_fb g l s ⟨false, [], []⟩ b hb (by omega) x hx
          omega
        · rw [if_neg h3]
          by_cases h2 : k = 2
          · rw [if_pos h2]
            intro x hx
            have := gluSeq_fb g l s ⟨true, [], []⟩ b 0 hb (by simp) (by omega) x hx
            omega
          · rw [if_neg h2]
            have h4 := gluOne_fb g l s b hb (by omega)
            have h5 := gluOne_bd g l s
            intro x hx
            dsimp only at hx
            split at hx
            · have := joinF_bound (b := b + 80000 * Ex.cnts l) (fun y hy => h4 y hy) x hx
              have h6 : (gluOne g l s).2.last.length * (gluOne g l s).2.first.length ≤ 200 * 200 := Nat.mul_le_mul (Nat.le_trans h5.ll (by omega)) (Nat.le_trans h5.fl (by omega))
              omega
            · have := h4 x hx
              omega
theorem gluOne_fb (g : List Grp) : ∀ (l : List Ex) (s : St) (b : Nat), (∀ x ∈ s.2, x.length ≤ b) → Ex.cnts l ≤ 200 → ∀ x ∈ (gluOne g l s).1.2, x.length ≤ b + 80000 * Ex.cnts l
  | [], s, b, hb, hc => fun x hx => by have := hb x hx; omega
  | y :: r, s, b, hb, hc => fun x hx => by
    have hc1 : Ex.cnts (y :: r) = y.cnt + Ex.cnts r := by simp [Ex.cnts]
    have := glu_fb g y s b hb (by omega) x hx
    omega
theorem gluAlt_fb (g : List Grp) : ∀ (l : List Ex) (s : St) (p : Part) (b : Nat), (∀ x ∈ s.2, x.length ≤ b) → Ex.cnts l ≤ 200 → ∀ x ∈ (gluAlt g l s p).1.2, x.length ≤ b + 80000 * Ex.cnts l
  | [], s, p, b, hb, hc => fun x hx => by have := hb x hx; omega
  | y :: r, s, p, b, hb, hc => fun x hx => by
    have hc1 : Ex.cnts (y :: r) = y.cnt + Ex.cnts r := by simp [Ex.cnts]
    have h1 := glu_fb g y s b hb (by omega)
    rw [gluAlt] at hx
    have := gluAlt_fb g r (glu g y s).1 _ (b + 80000 * y.cnt) (fun z hz => by have := h1 z hz; omega) (by omega) x hx
    omega
theorem gluSeq_fb (g : List Grp) : ∀ (l : List Ex) (s : St) (p : Part) (b n : Nat), (∀ x ∈ s.2, x.length ≤ b) → p.last.length ≤ n → n + Ex.cnts l ≤ 200 → ∀ x ∈ (gluSeq g l s p).1.2, x.length ≤ b + 80000 * Ex.cnts l
  | [], s, p, b, n, hb, hp, hc => fun x hx => by have := hb x hx; omega
  | y :: r, s, p, b, n, hb, hp, hc => fun x hx => by
    have hc1 : Ex.cnts (y :: r) = y.cnt + Ex.cnts r := by simp [Ex.cnts]
    have h1 := glu_fb g y s b hb (by omega)
    have h2 := glu_bd g y s
    rw [gluSeq] at hx
    have h3 : ∀ z ∈ joinF (glu g y s).1.2 p.last (glu g y s).2.first, z.length ≤ b + 80000 * y.cnt := fun z hz => by
      have := joinF_bound (b := b + 80000 * y.cnt - 40000) (fun u hu => by have := h1 u hu; omega) z hz
      have h6 : p.last.length * (glu g y s).2.first.length ≤ 200 * 200 := Nat.mul_le_mul (by omega) (Nat.le_trans h2.fl (by omega))
      have := y.cnt_pos
      omega
    have := gluSeq_fb g r ((glu g y s).1.1, joinF (glu g y s).1.2 p.last (glu g y s).2.first) _ (b + 80000 * y.cnt) (n + y.cnt) h3 (by have := h2.ll; have := @len_ite_r (glu g y s).2.none p.last (glu g y s).2.last; dsimp only; omega) (by omega) x hx
    omega
end
end Go.Proofs.Ytchgeaklaeoplaa
