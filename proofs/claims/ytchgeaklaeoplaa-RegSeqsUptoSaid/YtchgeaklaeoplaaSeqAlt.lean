/- Two parts one behind the other, two choices: their words. -/
import Derived.Test.YtchgeaklaeoplaaShift
namespace Go.Proofs.Ytchgeaklaeoplaa
open Go.RowKit
set_option linter.unusedVariables false
set_option linter.unusedSimpArgs false

theorem glu_seq2 (g : List Grp) (a b : Ex) (nm : ByteArray) (ha : (mcP g a).none = true) (hb : (mcP g b).none = true) (hl : (mcF g a).length = (mcT g a).length) :
    glu g (.mk 2 nm [a, b]) ([], []) = ((mcT g a ++ mcT g b, joinF (mcF g a ++ (mcF g b).map (shL (mcT g a).length)) (mcP g a).last (shL (mcT g a).length (mcP g b).first)), ⟨true, (mcP g a).first ++ shL (mcT g a).length (mcP g b).first, (mcP g a).last ++ shL (mcT g a).length (mcP g b).last⟩) := by
  have h2 := glu_after g (mcT g a) (mcF g a) hl b
  rw [glu, if_neg (by decide), if_neg (by decide), if_neg (by decide), if_pos rfl]
  simp only [gluSeq]
  have e : ((glu g a ([], [])).1.1, joinF (glu g a ([], [])).1.2 [] (glu g a ([], [])).2.first) = (mcT g a, mcF g a) := rfl
  rw [e, h2]
  have ha' : (glu g a ([], [])).2.none = true := ha
  simp only [shP, ha', hb, Bool.and_self, if_true, List.nil_append]
theorem glu_alt2 (g : List Grp) (a b : Ex) (nm : ByteArray) (ha : (mcP g a).none = true) (hl : (mcF g a).length = (mcT g a).length) :
    glu g (.mk 3 nm [a, b]) ([], []) = ((mcT g a ++ mcT g b, mcF g a ++ (mcF g b).map (shL (mcT g a).length)), ⟨true, (mcP g a).first ++ shL (mcT g a).length (mcP g b).first, (mcP g a).last ++ shL (mcT g a).length (mcP g b).last⟩) := by
  have h2 := glu_after g (mcT g a) (mcF g a) hl b
  rw [glu, if_neg (by decide), if_neg (by decide), if_pos rfl]
  simp only [gluAlt]
  have e : (glu g a ([], [])).1 = (mcT g a, mcF g a) := rfl
  rw [e, h2]
  have ha' : (glu g a ([], [])).2.none = true := ha
  simp only [shP, ha', Bool.false_or, Bool.true_or, List.nil_append]

theorem getD_mem {X : List (List Int)} {i : Nat} {a : Int} (h : a ∈ X.getD i []) : ∃ x, X[i]? = some x ∧ a ∈ x ∧ i < X.length := by
  simp only [List.getD] at h
  cases hx : X[i]? with
  | none => simp [hx] at h
  | some x => exact ⟨x, rfl, by simpa [hx] using h, (List.getElem?_eq_some_iff.1 hx).1⟩
theorem getD_left {X Y : List (List Int)} {i : Nat} (h : i < X.length) : (X ++ Y).getD i [] = X.getD i [] := by
  simp only [List.getD, List.getElem?_append_left h]
theorem getD_right {X Y : List (List Int)} {i : Nat} : (X ++ Y).getD (X.length + i) [] = Y.getD i [] := by
  simp only [List.getD, List.getElem?_append_right (Nat.le_add_right _ _), Nat.add_sub_cancel_left]
theorem getD_sh {X : List (List Int)} {n i : Nat} : (X.map (shL n)).getD i [] = shL n (X.getD i []) := by
  simp only [List.getD, List.getElem?_map]
  cases X[i]? <;> simp [shL]
theorem mem_shL {n : Nat} {l : List Int} {a : Int} : a ∈ shL n l ↔ ∃ b ∈ l, b + (n : Int) = a := by simp [shL]

section
variable {ts1 ts2 fs1 fs2 fs : List (List Int)} {p1 p2 p : Part}
/-- What the machine of two does at least. -/
structure Two (ts1 ts2 fs1 fs2 fs : List (List Int)) (p1 p2 p : Part) : Prop where
  ok1 : MOk ts1 fs1 p1
  ok2 : MOk ts2 fs2 p2
  l1 : ∀ i a, a ∈ fs1.getD i [] → a ∈ fs.getD i []
  l2 : ∀ i a, a ∈ fs2.getD i [] → a + (ts1.length : Int) ∈ fs.getD (ts1.length + i) []
  f1 : ∀ a ∈ p1.first, a ∈ p.first
  f2 : ∀ a ∈ p2.first, a + (ts1.length : Int) ∈ p.first
theorem Two.left (h : Two ts1 ts2 fs1 fs2 fs p1 p2 p) {w : List Int} {x : Int} (hp : Path ts1 fs1 p1 w x) : Path (ts1 ++ ts2) fs p w x := by
  induction hp with
  | nil => exact .nil
  | snoc w x y t _ h2 h3 ih =>
    refine .snoc w x y t ih ?_ ?_
    · unfold nextsOf at h2 ⊢
      split
      · rename_i hx; rw [if_pos hx] at h2; exact h.f1 y h2
      · rename_i hx; rw [if_neg hx] at h2; exact h.l1 _ y h2
    · obtain ⟨z, _, _, hz⟩ := getD_mem h3
      rw [getD_left hz]
      exact h3
theorem Two.right (h : Two ts1 ts2 fs1 fs2 fs p1 p2 p) {v : List Int} {z : Int} (hv : Path (ts1 ++ ts2) fs p v z) (hz : ∀ a ∈ p2.first, a + (ts1.length : Int) ∈ nextsOf fs p z) {w : List Int} {x : Int} (hp : Path ts2 fs2 p2 w x) :
    w = [] ∨ Path (ts1 ++ ts2) fs p (v ++ w) (x + (ts1.length : Int)) := by
  induction hp with
  | nil => exact .inl rfl
  | snoc w x y t h1 h2 h3 ih =>
    right
    have hy := h.ok2.ok _ y h2
    have hty : t ∈ (ts1 ++ ts2).getD (y + (ts1.length : Int)).toNat [] := by
      have e : (y + (ts1.length : Int)).toNat = ts1.length + y.toNat := by omega
      rw [e, getD_right]
      exact h3
    by_cases hw : w = []
    · subst hw
      have hx := h1.nil_inv
      subst hx
      rw [List.nil_append]
      exact .snoc v z _ t hv (hz y h2) hty
    · have ih := ih.resolve_left hw
      rw [← List.append_assoc]
      rcases h1.zero h.ok2 with ⟨h0, _⟩ | ⟨_, hx0, _⟩
      · exact absurd h0 hw
      · refine .snoc (v ++ w) _ _ t ih ?_ hty
        unfold nextsOf at h2 ⊢
        rw [if_neg (by omega)] at h2
        rw [if_neg (by omega)]
        have e : (x + (ts1.length : Int)).toNat = ts1.length + x.toNat := by omega
        rw [e]
        exact h.l2 _ y h2
end

theorem two_seq {g : List Grp} {a b : Ex} (h1 : MOk (mcT g a) (mcF g a) (mcP g a)) (h2 : MOk (mcT g b) (mcF g b) (mcP g b)) (nn : Bool) (la : List Int) :
    Two (mcT g a) (mcT g b) (mcF g a) (mcF g b) (joinF (mcF g a ++ (mcF g b).map (shL (mcT g a).length)) (mcP g a).last (shL (mcT g a).length (mcP g b).first)) (mcP g a) (mcP g b) ⟨nn, (mcP g a).first ++ shL (mcT g a).length (mcP g b).first, la⟩ where
  ok1 := h1
  ok2 := h2
  l1 := fun i x hx => by
    rw [mem_joinF]
    left
    obtain ⟨z, _, _, hz⟩ := getD_mem hx
    rw [getD_left hz]
    exact hx
  l2 := fun i x hx => by
    rw [mem_joinF]
    left
    rw [← h1.fl, getD_right, getD_sh, mem_shL]
    exact ⟨x, hx, rfl⟩
  f1 := fun x hx => List.mem_append.2 (.inl hx)
  f2 := fun x hx => List.mem_append.2 (.inr (mem_shL.2 ⟨x, hx, rfl⟩))
theorem two_alt {g : List Grp} {a b : Ex} (h1 : MOk (mcT g a) (mcF g a) (mcP g a)) (h2 : MOk (mcT g b) (mcF g b) (mcP g b)) (nn : Bool) (la : List Int) :
    Two (mcT g a) (mcT g b) (mcF g a) (mcF g b) (mcF g a ++ (mcF g b).map (shL (mcT g a).length)) (mcP g a) (mcP g b) ⟨nn, (mcP g a).first ++ shL (mcT g a).length (mcP g b).first, la⟩ where
  ok1 := h1
  ok2 := h2
  l1 := fun i x hx => by
    obtain ⟨z, _, _, hz⟩ := getD_mem hx
    rw [getD_left hz]
    exact hx
  l2 := fun i x hx => by
    rw [← h1.fl, getD_right, getD_sh, mem_shL]
    exact ⟨x, hx, rfl⟩
  f1 := fun x hx => List.mem_append.2 (.inl hx)
  f2 := fun x hx => List.mem_append.2 (.inr (mem_shL.2 ⟨x, hx, rfl⟩))

theorem acc_seq {g : List Grp} {a b : Ex} {nm : ByteArray} (h1 : MOk (mcT g a) (mcF g a) (mcP g a)) (h2 : MOk (mcT g b) (mcF g b) (mcP g b)) (ha : (mcP g a).none = true) (hb : (mcP g b).none = true) {x y : List Int} (hx : AccE a g x) (hy : AccE b g y) : AccE (.mk 2 nm [a, b]) g (x ++ y) := by
  obtain ⟨z1, p1, e1⟩ := hx
  obtain ⟨z2, p2, e2⟩ := hy
  have hT := two_seq h1 h2 true ((mcP g a).last ++ shL (mcT g a).length (mcP g b).last)
  have hL := hT.left p1
  unfold AccE
  have eT : mcT g (.mk 2 nm [a, b]) = mcT g a ++ mcT g b := by unfold mcT; rw [glu_seq2 g a b nm ha hb h1.fl]
  have eF : mcF g (.mk 2 nm [a, b]) = joinF (mcF g a ++ (mcF g b).map (shL (mcT g a).length)) (mcP g a).last (shL (mcT g a).length (mcP g b).first) := by unfold mcF; rw [glu_seq2 g a b nm ha hb h1.fl]
  have eP : mcP g (.mk 2 nm [a, b]) = ⟨true, (mcP g a).first ++ shL (mcT g a).length (mcP g b).first, (mcP g a).last ++ shL (mcT g a).length (mcP g b).last⟩ := by unfold mcP; rw [glu_seq2 g a b nm ha hb h1.fl]
  rw [eT, eF, eP]
  have hz : ∀ u ∈ (mcP g b).first, u + ((mcT g a).length : Int) ∈ nextsOf (joinF (mcF g a ++ (mcF g b).map (shL (mcT g a).length)) (mcP g a).last (shL (mcT g a).length (mcP g b).first)) ⟨true, (mcP g a).first ++ shL (mcT g a).length (mcP g b).first, (mcP g a).last ++ shL (mcT g a).length (mcP g b).last⟩ z1 := by
    intro u hu
    unfold nextsOf
    split
    · exact List.mem_append.2 (.inr (mem_shL.2 ⟨u, hu, rfl⟩))
    · rename_i hne
      have hl : z1 ∈ (mcP g a).last := by simpa [endS, hne] using e1
      rw [mem_joinF]
      right
      have := h1.last z1 hl
      refine ⟨?_, ⟨z1, hl, rfl⟩, mem_shL.2 ⟨u, hu, rfl⟩⟩
      rw [List.length_append, h1.fl]
      omega
  by_cases hy0 : y = []
  · subst hy0
    rw [List.append_nil]
    refine ⟨z1, hL, ?_⟩
    by_cases hne : z1 = -1
    · simp [endS, hne]
    · have hl : z1 ∈ (mcP g a).last := by simpa [endS, hne] using e1
      simp [endS, hne, hl]
  · have hR := (hT.right hL hz p2).resolve_left hy0
    refine ⟨_, hR, ?_⟩
    rcases p2.zero h2 with ⟨h0, _⟩ | ⟨_, h0, _⟩
    · exact absurd h0 hy0
    · have hne : z2 ≠ -1 := by omega
      have hl : z2 ∈ (mcP g b).last := by simpa [endS, hne] using e2
      have hm : z2 + ((mcT g a).length : Int) ∈ shL (mcT g a).length (mcP g b).last := mem_shL.2 ⟨z2, hl, rfl⟩
      have hn2 : z2 + ((mcT g a).length : Int) ≠ -1 := by omega
      simp [endS, hn2, hm]

/-- The machine of two choices: a word of one of them. -/
theorem alt_path {g : List Grp} {a b : Ex} (h1 : MOk (mcT g a) (mcF g a) (mcP g a)) (h2 : MOk (mcT g b) (mcF g b) (mcP g b)) {nn : Bool} {la : List Int} {w : List Int} {z : Int}
    (h : Path (mcT g a ++ mcT g b) (mcF g a ++ (mcF g b).map (shL (mcT g a).length)) ⟨nn, (mcP g a).first ++ shL (mcT g a).length (mcP g b).first, la⟩ w z) :
    (w = [] ∧ z = -1) ∨ (0 ≤ z ∧ z < (mcT g a).length ∧ Path (mcT g a) (mcF g a) (mcP g a) w z) ∨ ∃ u, 0 ≤ u ∧ z = u + ((mcT g a).length : Int) ∧ Path (mcT g b) (mcF g b) (mcP g b) w u := by
  induction h with
  | nil => exact .inl ⟨rfl, rfl⟩
  | snoc w x y t h3 h4 h5 ih =>
    right
    -- where y comes from
    have key : (y ∈ nextsOf (mcF g a) (mcP g a) x ∧ (x = -1 ∨ (0 ≤ x ∧ x < (mcT g a).length))) ∨ ∃ v u, y = u + ((mcT g a).length : Int) ∧ u ∈ nextsOf (mcF g b) (mcP g b) v ∧ ((x = -1 ∧ v = -1) ∨ (0 ≤ v ∧ x = v + ((mcT g a).length : Int))) := by
      by_cases hx : x = -1
      · subst hx
        unfold nextsOf at h4
        rw [if_pos rfl] at h4
        rcases List.mem_append.1 h4 with h | h
        · left
          exact ⟨by unfold nextsOf; rw [if_pos rfl]; exact h, .inl rfl⟩
        · right
          obtain ⟨u, hu, rfl⟩ := mem_shL.1 h
          exact ⟨-1, u, rfl, by unfold nextsOf; rw [if_pos rfl]; exact hu, .inl ⟨rfl, rfl⟩⟩
      · unfold nextsOf at h4
        rw [if_neg hx] at h4
        have hx0 : 0 ≤ x := by
          rcases ih with ⟨_, h⟩ | ⟨h, _⟩ | ⟨u, h, h', _⟩
          · exact absurd h hx
          · exact h
          · omega
        by_cases hlt : x < (mcT g a).length
        · left
          rw [getD_left (by rw [h1.fl]; omega)] at h4
          exact ⟨by unfold nextsOf; rw [if_neg hx]; exact h4, .inr ⟨hx0, hlt⟩⟩
        · right
          obtain ⟨v, hv⟩ : ∃ v : Nat, x = (v : Int) + ((mcT g a).length : Int) := ⟨(x - (mcT g a).length).toNat, by omega⟩
          have e : x.toNat = (mcF g a).length + v := by rw [h1.fl]; omega
          rw [e, getD_right, getD_sh] at h4
          obtain ⟨u, hu, rfl⟩ := mem_shL.1 h4
          refine ⟨v, u, rfl, ?_, .inr ⟨by omega, hv⟩⟩
          unfold nextsOf
          rw [if_neg (by omega)]
          simpa using hu
    rcases key with ⟨hy, hx⟩ | ⟨v, u, rfl, hu, hv⟩
    · left
      have hr := h1.ok _ y hy
      have hp : Path (mcT g a) (mcF g a) (mcP g a) w x := by
        rcases ih with ⟨rfl, rfl⟩ | ⟨_, _, h⟩ | ⟨u, h, h', _⟩
        · exact .nil
        · exact h
        · omega
      refine ⟨hr.1, hr.2, .snoc w x y t hp hy ?_⟩
      rw [getD_left (by omega)] at h5
      exact h5
    · right
      have hr := h2.ok _ u hu
      have hp : Path (mcT g b) (mcF g b) (mcP g b) w v := by
        rcases hv with ⟨rfl, rfl⟩ | ⟨hv, rfl⟩
        · rcases ih with ⟨rfl, _⟩ | ⟨h, _⟩ | ⟨u, h, h', _⟩
          · exact .nil
          · omega
          · omega
        · rcases ih with ⟨_, h⟩ | ⟨_, h, _⟩ | ⟨u', h, h', h6⟩
          · omega
          · omega
          · have : v = u' := by omega
            subst this
            exact h6
      refine ⟨u, hr.1, rfl, .snoc w v u t hp hu ?_⟩
      have e : (u + ((mcT g a).length : Int)).toNat = (mcT g a).length + u.toNat := by omega
      rw [e, getD_right] at h5
      exact h5
theorem acc_alt {g : List Grp} {a b : Ex} {nm : ByteArray} (h1 : MOk (mcT g a) (mcF g a) (mcP g a)) (h2 : MOk (mcT g b) (mcF g b) (mcP g b)) (ha : (mcP g a).none = true) (hb : (mcP g b).none = true) (w : List Int) : AccE (.mk 3 nm [a, b]) g w ↔ AccE a g w ∨ AccE b g w := by
  unfold AccE
  have eT : mcT g (.mk 3 nm [a, b]) = mcT g a ++ mcT g b := by unfold mcT; rw [glu_alt2 g a b nm ha h1.fl]
  have eF : mcF g (.mk 3 nm [a, b]) = mcF g a ++ (mcF g b).map (shL (mcT g a).length) := by unfold mcF; rw [glu_alt2 g a b nm ha h1.fl]
  have eP : mcP g (.mk 3 nm [a, b]) = ⟨true, (mcP g a).first ++ shL (mcT g a).length (mcP g b).first, (mcP g a).last ++ shL (mcT g a).length (mcP g b).last⟩ := by unfold mcP; rw [glu_alt2 g a b nm ha h1.fl]
  rw [eT, eF, eP]
  have hT := two_alt h1 h2 true ((mcP g a).last ++ shL (mcT g a).length (mcP g b).last)
  constructor
  · rintro ⟨z, h, he⟩
    rcases alt_path h1 h2 h with ⟨rfl, rfl⟩ | ⟨h3, h4, h5⟩ | ⟨u, h3, rfl, h5⟩
    · left
      exact ⟨-1, .nil, by simp [endS, ha]⟩
    · left
      refine ⟨z, h5, ?_⟩
      have hne : z ≠ -1 := by omega
      simp [endS, hne] at he ⊢
      rcases he with he | he
      · exact he
      · obtain ⟨v, hv, e⟩ := mem_shL.1 he
        have := h2.last v hv
        omega
    · right
      refine ⟨u, h5, ?_⟩
      have hne : u + ((mcT g a).length : Int) ≠ -1 := by omega
      have hne2 : u ≠ -1 := by omega
      simp [endS, hne, hne2] at he ⊢
      rcases he with he | he
      · have := h1.last _ he
        omega
      · obtain ⟨v, hv, e⟩ := mem_shL.1 he
        have : v = u := by omega
        rw [← this]; exact hv
  · rintro (⟨z, h, he⟩ | ⟨z, h, he⟩)
    · refine ⟨z, hT.left h, ?_⟩
      by_cases hne : z = -1
      · simp [endS, hne]
      · have hl : z ∈ (mcP g a).last := by simpa [endS, hne] using he
        simp [endS, hne, hl]
    · rcases h.zero h2 with ⟨rfl, rfl⟩ | ⟨hw, h0, _⟩
      · exact ⟨-1, .nil, by simp [endS]⟩
      · have hR := (hT.right (v := []) .nil (fun u hu => by unfold nextsOf; rw [if_pos rfl]; exact hT.f2 u hu) h).resolve_left hw
        refine ⟨_, hR, ?_⟩
        have hne : z ≠ -1 := by omega
        have hl : z ∈ (mcP g b).last := by simpa [endS, hne] using he
        have hm : z + ((mcT g a).length : Int) ∈ shL (mcT g a).length (mcP g b).last := mem_shL.2 ⟨z, hl, rfl⟩
        have hn2 : z + ((mcT g a).length : Int) ≠ -1 := by omega
        simp [endS, hn2, hm]
end Go.Proofs.Ytchgeaklaeoplaa
