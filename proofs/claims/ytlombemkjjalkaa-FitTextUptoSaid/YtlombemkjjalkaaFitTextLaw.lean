/- Plain laws of a slice's text. -/
import Derived.Test.YtlombemkjjalkaaPlain
import Derived.Laws.BitsLemmas
namespace Go.Proofs.Ytlombemkjjalkaa
set_option linter.unusedVariables false
set_option linter.unusedSimpArgs false

theorem and_small {m : Int} (h0 : 0 ≤ m) (h4 : m ≤ 4) (s : Int) : ∃ j : Nat, j ≤ 4 ∧ bits .and .i64 m s = j ∧ bits .and .i64 (bits .and .i64 m s) s = j := by
  obtain ⟨a, rfl⟩ := Int.eq_ofNat_of_zero_le h0
  have ha : a ≤ 4 := by omega
  have hw : ∀ n : Nat, n ≤ 4 → IntKind.i64.wrap (n : Int) = n := fun n hn => by rw [IntKind.wrap_i64]; omega
  have key : ∀ n : Nat, n ≤ 4 → bits .and .i64 (n : Int) s = ((n &&& (BitVec.ofInt 64 s).toNat : Nat) : Int) ∧ (n &&& (BitVec.ofInt 64 s).toNat) ≤ n := by
    intro n hn
    have hle : (n &&& (BitVec.ofInt 64 s).toNat) ≤ n := Nat.and_le_left
    refine ⟨?_, hle⟩
    show IntKind.i64.wrap ((BitVec.ofInt 64 (n : Int) &&& BitVec.ofInt 64 s).toNat : Int) = _
    rw [BitVec.toNat_and, BitVec.ofInt_natCast, BitVec.toNat_ofNat, Nat.mod_eq_of_lt (by omega)]
    exact hw _ (by omega)
  obtain ⟨k1, k2⟩ := key a ha
  obtain ⟨k3, _⟩ := key (a &&& (BitVec.ofInt 64 s).toNat) (by omega)
  refine ⟨_, by omega, k1, ?_⟩
  rw [k1, k3, Nat.and_assoc, Nat.and_self]

theorem plain_tok {s : Spec} {x : Tok} (h : plainOk s x = true) : x.k = 0 ∧ rightB x = true ∧ (plainTok s x).k = 0 ∧ (plainTok s x).n = x.n ∧ rightB (plainTok s x) = true ∧ bits .and .i64 (plainTok s x).m s.marks = (plainTok s x).m ∧ (x.n = 10 → s.lines = true) ∧ plainOk s (plainTok s x) = true ∧ plainTok s (plainTok s x) = plainTok s x := by
  simp only [plainOk, Bool.and_eq_true, Bool.or_eq_true, decide_eq_true_eq] at h
  obtain ⟨⟨hk, hr⟩, hl⟩ := h
  have hr' : RightP x := by simpa [rightB] using hr
  have hm : PointP x.n ∧ x.t = 0 ∧ MarkP x.m := by
    rcases hr' with ⟨_, h1, h2, h3⟩ | ⟨h, _⟩ | ⟨h, _⟩
    · exact ⟨h2, h1, h3⟩
    · omega
    · omega
  obtain ⟨hp, ht, h0, h4⟩ := hm
  obtain ⟨j, hj, e1, e2⟩ := and_small h0 h4 s.marks
  have hb : markB x.m = true := by simp [markB, MarkP, h0, h4]
  have hw : (plainTok s x).m = j := by
    show within x.m s.marks = j
    rw [within, if_pos hb, e1]
  have hr2 : RightP (plainTok s x) := .inl ⟨hk, ht, hp, by rw [hw]; exact ⟨by omega, by omega⟩⟩
  have hb2 : rightB (plainTok s x) = true := by simp [rightB, hr2]
  have hand : bits .and .i64 (plainTok s x).m s.marks = (plainTok s x).m := by
    rw [hw, ← e2, e1]
    rw [e1] at e2
    rw [e2, e2]
  have hmb : markB (plainTok s x).m = true := by rw [hw]; simp [markB, MarkP]; omega
  refine ⟨hk, hr, hk, rfl, hb2, hand, ?_, ?_, ?_⟩
  · intro h10
    rcases hl with hl | hl
    · exact absurd h10 hl
    · exact hl
  · simp only [plainOk, Bool.and_eq_true, Bool.or_eq_true, decide_eq_true_eq]
    exact ⟨⟨hk, hb2⟩, hl⟩
  · have : within (plainTok s x).m s.marks = (plainTok s x).m := by rw [within, if_pos hmb, hand]
    show { plainTok s x with m := within (plainTok s x).m s.marks } = plainTok s x
    rw [this]

theorem plain_cons (s : Spec) (x : Tok) (l : List Tok) : plain (x :: l) s = if plainOk s x = true then plainTok s x :: plain l s else plain l s := by
  unfold plain
  by_cases h : plainOk s x = true <;> simp [List.filter, h]
theorem plain_mem {s : Spec} {l : List Tok} {y : Tok} (h : y ∈ plain l s) : ∃ x, plainOk s x = true ∧ y = plainTok s x := by
  unfold plain at h
  obtain ⟨x, hx, rfl⟩ := List.mem_map.1 h
  exact ⟨x, (List.mem_filter.1 hx).2, rfl⟩
theorem plain_plain (s : Spec) (l : List Tok) : plain (plain l s) s = plain l s := by
  induction l with
  | nil => rfl
  | cons x l ih =>
    rw [plain_cons]
    split
    · rename_i h
      obtain ⟨_, _, _, _, _, _, _, h1, h2⟩ := plain_tok h
      rw [plain_cons, if_pos h1, h2, ih]
    · exact ih

/-- Behind place k of the slice what is still to come of its text lies there. -/
def Ahead (l : List Tok) (s : Spec) (k : Nat) (rest : List Tok) : Prop := ∃ j, k ≤ j ∧ plain (l.drop j) s = rest
theorem Ahead.lt {l : List Tok} {s : Spec} {k : Nat} {y : Tok} {rest : List Tok} (h : Ahead l s k (y :: rest)) : k < l.length := by
  obtain ⟨j, hj, he⟩ := h
  rcases Nat.lt_or_ge j l.length with h | h
  · omega
  · rw [List.drop_eq_nil_of_le h] at he
    simp [plain] at he
/-- A token that is not what comes next is passed over. -/
theorem Ahead.skip {l : List Tok} {s : Spec} {k : Nat} {x y : Tok} {rest : List Tok} (h : Ahead l s k (y :: rest)) (hx : l[k]? = some x) (hn : ¬ (x.k = 0 ∧ x.n = y.n ∧ rightB x = true)) : Ahead l s (k + 1) (y :: rest) := by
  obtain ⟨j, hj, he⟩ := h
  rcases Nat.lt_or_ge k j with h | h
  · exact ⟨j, h, he⟩
  · obtain rfl : j = k := by omega
    rw [drop_cons hx, plain_cons] at he
    split at he
    · rename_i ho
      injection he with he1 he2
      obtain ⟨h1, h2, _, h4, _⟩ := plain_tok ho
      subst he1
      exact absurd ⟨h1, h4.symm, h2⟩ hn
    · exact ⟨j + 1, Nat.le_refl _, he⟩
theorem ahead_next {l : List Tok} {s : Spec} {y : Tok} {rest : List Tok} : ∀ (d k j : Nat), l.length - j = d → k ≤ j → plain (l.drop j) s = y :: rest → Ahead l s (k + 1) rest := by
  intro d
  induction d with
  | zero =>
    intro k j hd hj he
    rw [List.drop_eq_nil_of_le (by omega)] at he
    simp [plain] at he
  | succ d ih =>
    intro k j hd hj he
    obtain ⟨x, hx⟩ : ∃ x, l[j]? = some x := ⟨_, List.getElem?_eq_getElem (by omega)⟩
    rw [drop_cons hx, plain_cons] at he
    split at he
    · injection he with _ he
      exact ⟨j + 1, by omega, he⟩
    · exact ih k (j + 1) (by omega) (by omega) he
theorem Ahead.next {l : List Tok} {s : Spec} {k : Nat} {y : Tok} {rest : List Tok} (h : Ahead l s k (y :: rest)) : Ahead l s (k + 1) rest := by
  obtain ⟨j, hj, he⟩ := h
  exact ahead_next _ k j rfl hj he
end Go.Proofs.Ytlombemkjjalkaa
