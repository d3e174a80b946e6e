/- Items in items: what Indent and Outdent do (plain). -/
import Derived.Test.YtfapglhdakhbeaaGreatDoorPiece
namespace Go.Proofs.YtfapglhdakhbeaaGreatDoor
open Go.RowKit
set_option linter.unusedVariables false
set_option linter.unusedSimpArgs false

/-! ### Items -/
def itemsGo (l : List Tok) : Nat → Int → List Int
  | 0, _ => []
  | n + 1, i => if i < 0 then [] else (if tyAt l i = 6 then [i] else []) ++ itemsGo l n (aroundL l i)
/-- The items that are open at a place, the innermost first. -/
def itemsL (l : List Tok) (p : Int) : List Int := itemsGo l (l.length + 1) (aroundL l p)
theorem items_stk {l : List Tok} (hd : dpt 0 l = some 0) : ∀ (s : List Int) (n fuel : Nat), n ≤ l.length → stkGo 0 (l.take n) [] = s.reverse → s.length < fuel → itemsGo l fuel (aroundL l n) = s.filter (fun p => decide (tyAt l p = 6)) := by
  intro s
  induction s with
  | nil =>
    intro n fuel hn hs hf
    obtain ⟨f, rfl⟩ : ∃ f, fuel = f + 1 := ⟨fuel - 1, by simp at hf; omega⟩
    rw [around_at hn, hs]
    rfl
  | cons p s ih =>
    intro n fuel hn hs hf
    obtain ⟨f, rfl⟩ : ∃ f, fuel = f + 1 := ⟨fuel - 1, by simp at hf; omega⟩
    rw [List.reverse_cons] at hs
    obtain ⟨i, o, B, rfl, hin, hio, ho, _, _, hsi⟩ := around_piece hd n hn _ _ hs
    have ha : aroundL l n = (i : Int) := by
      rw [around_at hn, hs]
      simp
    rw [ha, itemsGo, if_neg (by omega), ih i f (by omega) hsi (by simp at hf; omega), List.filter_cons]
    by_cases h6 : tyAt l i = 6
    · simp [h6]
    · simp [h6]
theorem items_all {l : List Tok} (hd : dpt 0 l = some 0) {n : Nat} (hn : n ≤ l.length) : itemsL l n = (stkGo 0 (l.take n) []).reverse.filter (fun p => decide (tyAt l p = 6)) := by
  refine items_stk hd _ n _ hn (by simp) ?_
  rw [List.length_reverse]
  have := stkGo_len (l.take n) 0 []
  rw [List.length_take] at this
  simp at this
  omega
/-- How many items are open: a matter of the types. -/
theorem level_tstk {l : List Tok} (hd : dpt 0 l = some 0) {n : Nat} (hn : n ≤ l.length) : (itemsL l n).length = (tstk (l.take n) []).countP (fun t => decide (t = 6)) := by
  rw [items_all hd hn, tstk_stk n hn, ← List.map_reverse, List.countP_map, List.countP_eq_length_filter]
  rfl
/-- The innermost item: what is open within it is none. -/
theorem item_piece {l : List Tok} (hd : dpt 0 l = some 0) : ∀ (s : List Int) (n : Nat), n ≤ l.length → stkGo 0 (l.take n) [] = s.reverse → ∀ (p : Int) (r : List Int), s.filter (fun p => decide (tyAt l p = 6)) = p :: r →
    ∃ (x : Nat) (o : Tok) (M : List Tok) (m : Nat), p = x ∧ x < n ∧ l[x]? = some o ∧ o.k = 1 ∧ o.t = 6 ∧ l.take n = l.take x ++ o :: M ∧ dpt 0 M = some m ∧ ∀ q ∈ stkGo (x + 1) M [], tyAt l q ≠ 6 := by
  intro s
  induction s with
  | nil => intro n hn hs p r h; cases h
  | cons q s ih =>
    intro n hn hs p r h
    rw [List.reverse_cons] at hs
    obtain ⟨i, o, B, rfl, hin, hio, ho, htk, hB, hsi⟩ := around_piece hd n hn _ _ hs
    have hty : tyAt l i = o.t := by simp [tyAt, hio]
    rw [List.filter_cons] at h
    by_cases h6 : tyAt l i = 6
    · rw [if_pos (by simpa using h6)] at h
      simp only [List.cons.injEq] at h
      refine ⟨i, o, B, 0, h.1.symm, hin, hio, ho, by omega, htk, hB, fun q hq => ?_⟩
      have := (dpt_stk B 0 0 hB (i + 1) [] rfl []).2
      rw [List.eq_nil_of_length_eq_zero this] at hq
      cases hq
    · rw [if_neg (by simpa using h6)] at h
      obtain ⟨x, ox, M, m, rfl, hxi, hx, ho1, ho6, hpi, hM, hq⟩ := ih i (by omega) hsi p r h
      have hbal := (dpt_stk B 0 0 hB (i + 1) [] rfl []).2
      refine ⟨x, ox, M ++ o :: B, m + 1, rfl, by omega, hx, ho1, ho6, by rw [htk, hpi]; simp, ?_, fun q hqm => ?_⟩
      · rw [dpt_app, hM]
        simp only [Option.bind_some]
        rw [dpt, if_pos ho]
        have := dpt_up B 0 0 (m + 1) hB
        simpa using this
      · have hlm : x + 1 + M.length = i := by
          have := congrArg List.length hpi
          rw [List.length_append, List.length_take, List.length_take, List.length_cons] at this
          have hil := (List.getElem?_eq_some_iff.1 hio).1
          have hxl := (List.getElem?_eq_some_iff.1 hx).1
          omega
        rw [stkGo_app, hlm] at hqm
        simp only [stkGo, stkStep, if_pos ho] at hqm
        have e1 := (dpt_stk B 0 0 hB (i + 1) [] rfl (stkGo (x + 1) M [] ++ [(i : Int)])).1
        rw [List.append_nil, List.eq_nil_of_length_eq_zero hbal, List.append_nil] at e1
        rw [e1] at hqm
        rcases List.mem_append.1 hqm with h1 | h1
        · exact hq q h1
        · rw [List.mem_singleton.1 h1]; exact h6
/-! ### What may be around what, in the house -/
theorem house_parent {l : List Tok} (ok : (houseCheck l).2 = 0) {x : Nat} {o : Tok} (hx : l[x]? = some o) (h1 : o.k = 1) :
    (stkGo 0 (l.take x) [] = [] ∧ o.t ∈ tyR (ruleOf houseRules 0)) ∨ ∃ (s : List Int) (j yt : Nat) (y : Tok), stkGo 0 (l.take x) [] = s ++ [(j : Int)] ∧ l[j]? = some y ∧ y.k = 1 ∧ y.t = yt ∧ 1 ≤ yt ∧ yt < 8 ∧ o.t ∈ tyR (ruleOf houseRules (yt : Int)) := by
  have hxl := (List.getElem?_eq_some_iff.1 hx).1
  obtain ⟨top, below, r1, ⟨t, r2, _⟩, hR, hM⟩ := at_level ok (Nat.le_of_lt hxl)
  rw [stack_at (by omega)] at hM
  unfold hRun at r2
  rw [drop_cons hx, ckRun_cons, if_neg (by omega)] at r2
  split at r2
  · rename_i hs
    have hin := ((stepOk_iff hR.wd.2.1 o).1 hs).2
    generalize stkGo 0 (l.take x) [] = s at hM
    cases hM with
    | nil h => exact .inl ⟨rfl, by rw [← h]; exact hin⟩
    | @snoc s j yt y t p q e1 e2 e3 e4 e5 e6 =>
      refine .inr ⟨s, j, yt, y, rfl, e1, e2, e3, e4, ?_, ?_⟩
      · have := (List.getElem?_eq_some_iff.1 e5).1
        rw [house_len] at this
        exact this
      · have : ruleOf houseRules (yt : Int) = top.1 := by
          unfold ruleOf
          rw [Int.toNat_natCast, e5]
          rfl
        rw [this]
        exact hin
  · cases r2
theorem ty_item : ((List.range 8).all fun i => !(decide ((6 : Int) ∈ tyR (ruleOf houseRules (i : Int)))) || decide (i = 5)) = true := by kernel_rfl
theorem ty_list : tyR (ruleOf houseRules 5) = [6] := by kernel_rfl
/-- What an item stands in is a list; what stands in a list is an item. -/
theorem item_list {l : List Tok} (ok : (houseCheck l).2 = 0) {x : Nat} {o : Tok} (hx : l[x]? = some o) (h1 : o.k = 1) (h6 : o.t = 6) : ∃ (s : List Int) (j : Nat) (y : Tok), stkGo 0 (l.take x) [] = s ++ [(j : Int)] ∧ l[j]? = some y ∧ y.k = 1 ∧ y.t = 5 := by
  rcases house_parent ok hx h1 with ⟨_, h⟩ | ⟨s, j, yt, y, e1, e2, e3, e4, e5, e6, h⟩
  · rw [h6] at h
    have : tyR (ruleOf houseRules 0) = [1, 2, 3, 4, 5, 7] := by kernel_rfl
    rw [this] at h
    exact absurd h (by decide)
  · have := List.all_eq_true.1 ty_item yt (List.mem_range.2 e6)
    rw [h6] at h
    simp only [Bool.or_eq_true, Bool.not_eq_true', decide_eq_false_iff_not, decide_eq_true_eq] at this
    rcases this with h' | h'
    · exact absurd h h'
    · exact ⟨s, j, y, e1, e2, e3, by omega⟩
theorem list_item {l : List Tok} (ok : (houseCheck l).2 = 0) {x j : Nat} {o y : Tok} {s : List Int} (hx : l[x]? = some o) (h1 : o.k = 1) (hs : stkGo 0 (l.take x) [] = s ++ [(j : Int)]) (hy : l[j]? = some y) (h5 : y.t = 5) : o.t = 6 := by
  rcases house_parent ok hx h1 with ⟨h, _⟩ | ⟨s', j', yt, y', e1, e2, e3, e4, e5, e6, h⟩
  · rw [hs] at h
    simp at h
  · rw [hs] at e1
    obtain ⟨rfl, e⟩ := List.append_inj' e1 rfl
    simp only [List.cons.injEq, and_true] at e
    have : j = j' := by omega
    subst this
    rw [hy] at e2
    simp only [Option.some.injEq] at e2
    subst e2
    have : (yt : Int) = 5 := by omega
    rw [this, ty_list] at h
    simpa using h
theorem house_dpt {l : List Tok} (ok : (houseCheck l).2 = 0) : dpt 0 l = some 0 := dpt_fc l 0 0 ((house_iff l).1 ok).2.1

/-! ### The laws -/
/-- No item is opened in a piece and left open. -/
def noItem (M : List Tok) : Prop := ∀ q ∈ stkGo 0 M [], tyAt M q ≠ 6
theorem stk_place (M : List Tok) (k : Nat) : stkGo k M [] = (stkGo 0 M []).map (· + (k : Int)) := by
  have := stk_shift M 0 k []
  simpa using this
theorem ty_mid {P M Z : List Tok} {i : Nat} (hi : i < M.length) : tyAt (P ++ (M ++ Z)) ((i : Int) + (P.length : Int)) = tyAt M (i : Int) := by
  unfold tyAt
  have e : ((i : Int) + (P.length : Int)).toNat = P.length + i := by omega
  rw [e, List.getElem?_append_right (by omega), show P.length + i - P.length = i by omega, List.getElem?_append_left hi]
  rfl
theorem noItem_of {P M Z : List Tok} (h : ∀ q ∈ stkGo P.length M [], tyAt (P ++ (M ++ Z)) q ≠ 6) : noItem M := by
  intro q hq
  rcases stkGo_mem M 0 [] q hq with h1 | ⟨j, x, rfl, hx, _⟩
  · cases h1
  · have hj := (List.getElem?_eq_some_iff.1 hx).1
    have := h ((j : Int) + (P.length : Int)) (by
      rw [stk_place]
      exact List.mem_map.2 ⟨_, hq, by simp⟩)
    rw [ty_mid hj] at this
    simpa using this
theorem item_of {P M Z : List Tok} {o : Tok} {m : Nat} (hd : dpt 0 (P ++ (o :: M ++ Z)) = some 0) (h1 : o.k = 1) (h6 : o.t = 6) (hM : dpt 0 M = some m) (hn : noItem M) :
    ∃ r, itemsL (P ++ (o :: M ++ Z)) ((P.length + 1 + M.length : Nat) : Int) = (P.length : Int) :: r := by
  have htk : (P ++ (o :: M ++ Z)).take (P.length + 1 + M.length) = P ++ o :: M := by
    rw [← List.append_assoc, List.take_left' (by simp; omega)]
  rw [items_all hd (by simp; omega), htk, stkGo_app]
  simp only [stkGo, stkStep, if_pos h1, Nat.zero_add]
  have e1 := (dpt_stk M 0 m hM (P.length + 1) [] rfl (stkGo 0 P [] ++ [(P.length : Int)])).1
  rw [List.append_nil] at e1
  rw [e1, List.reverse_append, List.filter_append]
  have e2 : (stkGo (P.length + 1) M []).reverse.filter (fun p => decide (tyAt (P ++ (o :: M ++ Z)) p = 6)) = [] := by
    rw [List.filter_eq_nil_iff]
    intro q hq
    rw [List.mem_reverse, stk_place] at hq
    obtain ⟨q0, hq0, rfl⟩ := List.mem_map.1 hq
    rcases stkGo_mem M 0 [] q0 hq0 with h | ⟨j, x, rfl, hx, _⟩
    · cases h
    · have hj := (List.getElem?_eq_some_iff.1 hx).1
      have h2 := hn _ hq0
      have h3 := ty_mid (P := P ++ [o]) (M := M) (Z := Z) hj
      simp only [List.append_assoc, List.singleton_append, List.length_append, List.length_singleton] at h3
      simp only [Nat.zero_add] at h2 ⊢
      rw [show P ++ (o :: M ++ Z) = P ++ (o :: (M ++ Z)) by simp, show ((j : Int) + ((P.length + 1 : Nat) : Int)) = (j : Int) + (((P.length + 1 : Nat)) : Int) from rfl, h3]
      simpa using h2
  rw [e2, List.nil_append, List.reverse_append, List.reverse_singleton, List.singleton_append, List.filter_cons]
  have e3 : tyAt (P ++ (o :: M ++ Z)) (P.length : Int) = 6 := by
    unfold tyAt
    rw [Int.toNat_natCast, List.getElem?_append_right (Nat.le_refl _), Nat.sub_self]
    simp [h6]
  rw [if_pos (by simpa using e3)]
  exact ⟨_, rfl⟩

abbrev isShut (l : List Tok) (i : Nat) : Prop := l[i]? = some shutT
def nOut (l : List Tok) (x li : Nat) : StepD :=
  if x = li + 1 then arnd li (partL l x + 3) x (partL l x + 1) 1 [shutT] else arnd x (partL l x + 3) x (partL l x + 1) 2 [shutT, shutT]
def outOk (l : List Tok) (x : Nat) : Prop := 0 ≤ aroundL l x ∧ 0 ≤ aroundL l (aroundL l x) ∧ tyAt l (aroundL l (aroundL l x)) = 6 ∧ partL l (aroundL l x).toNat = partL l x + 1 ∧ partL l (aroundL l (aroundL l x)).toNat = partL l x + 2
/-- What stands around, laid out. -/
structure Lay (l Q Bq Bp B R : List Tok) (zq yp o c : Tok) : Prop where
  eq : l = Q ++ (zq :: (Bq ++ (yp :: (Bp ++ (o :: (B ++ (c :: R)))))))
  kq : zq.k = 1
  kp : yp.k = 1
  ko : o.k = 1
  kc : c.k = 2
  dq : dpt 0 Bq = some 0
  dp : dpt 0 Bp = some 0
  db : dpt 0 B = some 0
section
variable {l Q Bq Bp B R : List Tok} {zq yp o c : Tok}
theorem around_in {P B Z : List Tok} {y : Tok} (h1 : y.k = 1) (hB : dpt 0 B = some 0) : aroundL (P ++ (y :: (B ++ Z))) ((P.length + 1 + B.length : Nat) : Int) = (P.length : Int) := by
  rw [around_at (by simp; omega)]
  have htk : (P ++ (y :: (B ++ Z))).take (P.length + 1 + B.length) = P ++ y :: B := by
    rw [show P ++ (y :: (B ++ Z)) = (P ++ y :: B) ++ Z by simp, List.take_left' (by simp; omega)]
  rw [htk, stkGo_app]
  simp only [stkGo, stkStep, if_pos h1, Nat.zero_add]
  have e1 := dpt_stk B 0 0 hB (P.length + 1) [] rfl (stkGo 0 P [] ++ [(P.length : Int)])
  rw [List.append_nil, List.eq_nil_of_length_eq_zero e1.2, List.append_nil] at e1
  rw [e1.1]
  simp
theorem part_in {P B Z : List Tok} {y c : Tok} (h1 : y.k = 1) (hc : c.k = 2) (hB : dpt 0 B = some 0) : partL (P ++ (y :: (B ++ (c :: Z)))) P.length = (P.length : Int) + 1 + B.length :=
  piece_part (by rw [List.drop_left]) h1 hc hB
theorem dpt_seg {o c : Tok} {B : List Tok} (ko : o.k = 1) (kc : c.k = 2) (db : dpt 0 B = some 0) : dpt 0 (o :: (B ++ [c])) = some 0 := by
  rw [dpt, if_pos ko, dpt_app]
  have := dpt_up B 0 0 1 db
  simp only [Nat.zero_add] at this ⊢
  rw [this]
  simp only [Option.bind_some]
  rw [dpt, if_neg (by omega), if_pos kc, if_neg (by decide)]
  rfl
theorem dpt_two {a b : List Tok} (ha : dpt 0 a = some 0) (hb : dpt 0 b = some 0) : dpt 0 (a ++ b) = some 0 := by rw [dpt_app, ha]; exact hb
/-- Where it all is. -/
theorem Lay.places (h : Lay l Q Bq Bp B R zq yp o c) : aroundL l ((Q.length + 1 + Bq.length + 1 + Bp.length : Nat) : Int) = ((Q.length + 1 + Bq.length : Nat) : Int) ∧ aroundL l ((Q.length + 1 + Bq.length : Nat) : Int) = (Q.length : Int) ∧
    tyAt l (Q.length : Int) = zq.t ∧ partL l (Q.length + 1 + Bq.length + 1 + Bp.length) = ((Q.length + 1 + Bq.length + 1 + Bp.length + 1 + B.length : Nat) : Int) := by
  have hl := h.eq
  refine ⟨?_, ?_, ?_, ?_⟩
  · have := around_in (P := Q ++ zq :: Bq) (y := yp) (B := Bp) (Z := o :: (B ++ (c :: R))) h.kp h.dp
    rw [hl]
    simp only [List.append_assoc, List.cons_append, List.length_append, List.length_cons] at this
    rw [show Q.length + 1 + Bq.length + 1 + Bp.length = Q.length + (Bq.length + 1) + 1 + Bp.length by omega, this]
    omega
  · rw [hl]
    exact around_in (P := Q) (y := zq) (B := Bq) h.kq h.dq
  · rw [hl]
    simp [tyAt]
  · have := part_in (P := Q ++ zq :: (Bq ++ yp :: Bp)) (y := o) (B := B) (c := c) (Z := R) h.ko h.kc h.db
    rw [hl]
    simp only [List.append_assoc, List.cons_append, List.length_append, List.length_cons] at this
    rw [show Q.length + 1 + Bq.length + 1 + Bp.length = Q.length + (Bq.length + (Bp.length + 1) + 1) by omega, this]
    omega
/-- Two ends behind it: what is around ends there. -/
theorem Lay.ends {c1 c2 : Tok} {R' : List Tok} (h : Lay l Q Bq Bp B (c1 :: c2 :: R') zq yp o c) (k1 : c1.k = 2) (k2 : c2.k = 2) : outOk l (Q.length + 1 + Bq.length + 1 + Bp.length) ↔ zq.t = 6 := by
  obtain ⟨e1, e2, e3, e4⟩ := h.places
  have seg := dpt_seg h.ko h.kc h.db
  have p1 : partL l (Q.length + 1 + Bq.length) = partL l (Q.length + 1 + Bq.length + 1 + Bp.length) + 1 := by
    have := part_in (P := Q ++ zq :: Bq) (y := yp) (B := Bp ++ o :: (B ++ [c])) (c := c1) (Z := c2 :: R') h.kp k1 (dpt_two h.dp seg)
    have hl := h.eq
    rw [e4, hl]
    simp only [List.append_assoc, List.cons_append, List.nil_append, List.length_append, List.length_cons, List.length_nil] at this
    rw [show Q.length + 1 + Bq.length = Q.length + (Bq.length + 1) by omega, this]
    omega
  have p2 : partL l Q.length = partL l (Q.length + 1 + Bq.length + 1 + Bp.length) + 2 := by
    have in2 : dpt 0 (yp :: ((Bp ++ o :: (B ++ [c])) ++ [c1])) = some 0 := dpt_seg h.kp k1 (dpt_two h.dp seg)
    have := part_in (P := Q) (y := zq) (B := Bq ++ (yp :: ((Bp ++ o :: (B ++ [c])) ++ [c1]))) (c := c2) (Z := R') h.kq k2 (dpt_two h.dq in2)
    have hl := h.eq
    rw [e4, hl]
    simp only [List.append_assoc, List.cons_append, List.nil_append, List.length_append, List.length_cons, List.length_nil] at this
    rw [this]
    omega
  unfold outOk
  rw [e1, e2, e3, Int.toNat_natCast, Int.toNat_natCast, p1, p2]
  constructor
  · exact fun h => h.2.2.1
  · exact fun h => ⟨by omega, by omega, h, rfl, rfl⟩
/-- What Outdent makes of it. -/
theorem Lay.out {c1 c2 : Tok} {R' : List Tok} (h : Lay l Q Bq Bp B (c1 :: c2 :: R') zq yp o c) :
    stepDo l (nOut l (Q.length + 1 + Bq.length + 1 + Bp.length) (Q.length + 1 + Bq.length)) =
      (if Bp = [] then Q ++ (zq :: (Bq ++ (shutT :: (o :: (B ++ (c :: R')))))) else Q ++ (zq :: (Bq ++ (yp :: (Bp ++ (shutT :: shutT :: (o :: (B ++ (c :: R')))))))) ) := by
  obtain ⟨e1, e2, e3, e4⟩ := h.places
  have hl := h.eq
  unfold nOut
  rw [e4]
  have t1 : ∀ n, n = Q.length + 1 + Bq.length → l.take n = Q ++ zq :: Bq := fun n hn => by
    rw [hl, show Q ++ (zq :: (Bq ++ (yp :: (Bp ++ (o :: (B ++ (c :: c1 :: c2 :: R'))))))) = (Q ++ zq :: Bq) ++ (yp :: (Bp ++ (o :: (B ++ (c :: c1 :: c2 :: R'))))) by simp, List.take_left' (by simp; omega)]
  have t2 : ∀ n, n = Q.length + 1 + Bq.length + 1 + Bp.length → l.take n = Q ++ zq :: (Bq ++ yp :: Bp) := fun n hn => by
    rw [hl, show Q ++ (zq :: (Bq ++ (yp :: (Bp ++ (o :: (B ++ (c :: c1 :: c2 :: R'))))))) = (Q ++ zq :: (Bq ++ yp :: Bp)) ++ (o :: (B ++ (c :: c1 :: c2 :: R'))) by simp, List.take_left' (by simp; omega)]
  have t3 : ∀ n m, n = Q.length + 1 + Bq.length + 1 + Bp.length + 1 + B.length + 1 → m = Q.length + 1 + Bq.length + 1 + Bp.length → (l.take n).drop m = o :: (B ++ [c]) := fun n m hn hm => by
    rw [hl, show Q ++ (zq :: (Bq ++ (yp :: (Bp ++ (o :: (B ++ (c :: c1 :: c2 :: R'))))))) = ((Q ++ zq :: (Bq ++ yp :: Bp)) ++ (o :: (B ++ [c]))) ++ (c1 :: c2 :: R') by simp, List.take_left' (by simp; omega), List.drop_left' (by simp; omega)]
  have t4 : ∀ n, n = Q.length + 1 + Bq.length + 1 + Bp.length + 1 + B.length + 3 → l.drop n = R' := fun n hn => by
    rw [hl, show Q ++ (zq :: (Bq ++ (yp :: (Bp ++ (o :: (B ++ (c :: c1 :: c2 :: R'))))))) = ((Q ++ zq :: (Bq ++ yp :: Bp)) ++ (o :: (B ++ [c, c1, c2]))) ++ R' by simp, List.drop_left' (by simp; omega)]
  by_cases hb : Bp = []
  · rw [if_pos hb, if_pos (by rw [hb]; rfl), arnd_do, t1 _ (by omega), t3 _ _ (by omega) (by omega), t4 _ (by omega)]
    simp
  · have : Bp.length ≠ 0 := fun e => hb (List.eq_nil_of_length_eq_zero e)
    rw [if_neg hb, if_neg (by omega), arnd_do, t2 _ (by omega), t3 _ _ (by omega) (by omega), t4 _ (by omega)]
    simp
end
/-- What is open at a place behind an item's beginning, by types. -/
theorem tstk_in {P M Z : List Tok} {o : Tok} (h1 : o.k = 1) (n : Nat) (hn : n = P.length + 1 + M.length) : tstk ((P ++ (o :: (M ++ Z))).take n) [] = tstk M (o.t :: tstk P []) := by
  rw [show P ++ (o :: (M ++ Z)) = (P ++ o :: M) ++ Z by simp, List.take_left' (by simp; omega), tstk_app, tstk, if_pos h1]
/-- A document with an item open at a place. -/
theorem item_lay {l : List Tok} (ok : (houseCheck l).2 = 0) {n : Nat} (hn : n ≤ l.length) {p : Int} {r : List Int} (hi : itemsL l n = p :: r) :
    ∃ (x j : Nat) (o y : Tok) (s : List Int) (M : List Tok) (m : Nat), p = x ∧ x < n ∧ l[x]? = some o ∧ o.k = 1 ∧ o.t = 6 ∧ l.take n = l.take x ++ o :: M ∧ dpt 0 M = some m ∧ noItem M ∧
      stkGo 0 (l.take x) [] = s ++ [(j : Int)] ∧ aroundL l x = j ∧ l[j]? = some y ∧ y.k = 1 ∧ y.t = 5 := by
  have hd := house_dpt ok
  rw [items_all hd hn] at hi
  obtain ⟨x, o, M, m, rfl, hxn, hx, ho, h6, htk, hM, hq⟩ := item_piece hd _ n hn (by simp) p r hi
  obtain ⟨s, j, y, e1, e2, e3, e4⟩ := item_list ok hx ho h6
  have hxl := (List.getElem?_eq_some_iff.1 hx).1
  refine ⟨x, j, o, y, s, M, m, rfl, hxn, hx, ho, h6, htk, hM, ?_, e1, ?_, e2, e3, e4⟩
  · have hl : l = (l.take x ++ [o]) ++ (M ++ l.drop n) := by
      conv => lhs; rw [← List.take_append_drop n l, htk]
      simp
    have hlen : (l.take x ++ [o]).length = x + 1 := by simp; omega
    refine noItem_of (P := l.take x ++ [o]) (Z := l.drop n) ?_
    rw [hlen, ← hl]
    exact hq
  · rw [around_at (by omega), e1]
    simp
/-- What is around an open item that has a partner. -/
theorem item_seg {l : List Tok} {x n : Nat} {o : Tok} {M : List Tok} {m : Nat} {e : Int} (hx : l[x]? = some o) (ho : o.k = 1) (hn : n ≤ l.length) (htk : l.take n = l.take x ++ o :: M) (hM : dpt 0 M = some m) (he : partL l x = e) (h0 : 0 ≤ e) :
    ∃ (B' R : List Tok) (c : Tok), l = l.take x ++ (o :: ((M ++ B') ++ (c :: R))) ∧ c.k = 2 ∧ dpt 0 (M ++ B') = some 0 ∧ e = (x : Int) + 1 + (M ++ B').length ∧ n = x + 1 + M.length := by
  obtain ⟨B, c, R, h1, h2, h3, h4⟩ := part_piece hx ho he h0
  have hxl := (List.getElem?_eq_some_iff.1 hx).1
  have hln : n = x + 1 + M.length := by
    have := congrArg List.length htk
    rw [List.length_append, List.length_take, List.length_take, List.length_cons] at this
    omega
  have hl1 : l = l.take x ++ (o :: (B ++ (c :: R))) := by
    conv => lhs; rw [← List.take_append_drop x l, h1]
  have hl2 : l = l.take x ++ (o :: (M ++ l.drop n)) := by
    conv => lhs; rw [← List.take_append_drop n l, htk]
    simp
  have hcmp : B ++ (c :: R) = M ++ l.drop n := by
    have := hl1.symm.trans hl2
    have := List.append_cancel_left this
    simpa using this
  rcases List.append_eq_append_iff.1 hcmp with ⟨a, ha, hb⟩ | ⟨a, ha, hb⟩
  · -- M is longer
    cases a with
    | nil =>
      refine ⟨[], R, c, ?_, h2, ?_, ?_, hln⟩
      · rw [List.append_nil, ha, List.append_nil]; exact hl1
      · rw [List.append_nil, ha, List.append_nil]; exact h3
      · rw [List.append_nil, ha, List.append_nil]; exact h4
    | cons c' a =>
      simp only [List.cons_append, List.cons.injEq] at hb
      obtain ⟨rfl, _⟩ := hb
      exfalso
      rw [ha, dpt_app, h3] at hM
      simp only [Option.bind_some] at hM
      rw [dpt, if_neg (by omega), if_pos h2, if_pos rfl] at hM
      cases hM
  · exact ⟨a, R, c, by rw [← ha]; exact hl1, h2, by rw [← ha]; exact h3, by rw [← ha]; exact h4, hln⟩
theorem textB_nil : textB ([] : List Tok) = [] := rfl
theorem textB_shut {x : Tok} (h : x.k ≠ 0) (r : List Tok) : textB (x :: r) = textB r := by
  rw [show x :: r = [x] ++ r from rfl, textB_app, textB_none h, List.nil_append]
theorem count_v {M : List Tok} {m : Nat} (hM : dpt 0 M = some m) (S S' : List Int) (d : Nat) (h : S.countP (fun t => decide (t = 6)) = S'.countP (fun t => decide (t = 6)) + d) :
    (tstk M S).countP (fun t => decide (t = 6)) = (tstk M S').countP (fun t => decide (t = 6)) + d := by
  obtain ⟨v, _, hv⟩ := dpt_tstk M 0 m hM [] rfl
  have e1 := hv S
  have e2 := hv S'
  rw [List.nil_append] at e1 e2
  rw [e1, e2, List.countP_append, List.countP_append, h]
  omega

theorem get_pos {l : List Tok} {i : Nat} {e : Int} (he : partL l i = e) (h0 : 0 ≤ e) : ∃ (j : Nat) (x : Tok), e = (j : Int) ∧ l[j]? = some x ∧ x.k = 2 := by
  obtain ⟨k, hk, _, _, x, hx, h2⟩ := part_some he h0
  exact ⟨i + k, x, by omega, hx, h2⟩
/-- What stands around an open item, laid out. -/
theorem lay_of {l : List Tok} (ok : (houseCheck l).2 = 0) {n : Nat} (hn : n ≤ l.length) {p : Int} {r : List Int} (hi : itemsL l n = p :: r) (h0 : 0 ≤ partL l p.toNat) :
    ∃ (x j : Nat) (o y : Tok) (s : List Int) (M B' Bp R : List Tok) (c : Tok) (m : Nat), p = x ∧ n = x + 1 + M.length ∧ l[x]? = some o ∧ o.k = 1 ∧ o.t = 6 ∧ dpt 0 M = some m ∧ noItem M ∧ aroundL l x = j ∧ l[j]? = some y ∧ y.k = 1 ∧ y.t = 5 ∧
      l.take x = l.take j ++ y :: Bp ∧ dpt 0 Bp = some 0 ∧ stkGo 0 (l.take x) [] = s ++ [(j : Int)] ∧ stkGo 0 (l.take j) [] = s ∧ l = l.take x ++ (o :: ((M ++ B') ++ (c :: R))) ∧ c.k = 2 ∧ dpt 0 (M ++ B') = some 0 ∧ partL l x = (x : Int) + 1 + (M ++ B').length ∧ j < x := by
  obtain ⟨x, j, o, y, s, M, m, rfl, hxn, hx, ho, h6, htk, hM, hnm, e1, e2, e3, e4, e5⟩ := item_lay ok hn hi
  rw [Int.toNat_natCast] at h0
  obtain ⟨B', R, c, g1, g2, g3, g4, g5⟩ := item_seg hx ho hn htk hM rfl h0
  have hxl := (List.getElem?_eq_some_iff.1 hx).1
  obtain ⟨i, o', Bp, hij, hix, hio, ho', htx, hBp, hsi⟩ := around_piece (house_dpt ok) x (by omega) s j e1
  have : i = j := by omega
  subst this
  rw [e3] at hio
  simp only [Option.some.injEq] at hio
  subst hio
  exact ⟨x, i, o, y, s, M, B', Bp, R, c, m, rfl, g5, hx, ho, h6, hM, hnm, e2, e3, e4, e5, htx, hBp, e1, hsi, g1, g2, g3, g4, hix⟩
theorem nout_gap {l : List Tok} {x li : Nat} (h : remapErr l (nOut l x li) = 0) : 0 ≤ partL l x := by
  obtain ⟨_, r2, _, _⟩ := remap_zero.1 h
  obtain ⟨_, ok⟩ := step_check_zero.1 r2
  unfold nOut at ok
  split at ok
  · obtain ⟨_, _, o3, _⟩ := arnd_ok.1 ok
    omega
  · obtain ⟨_, _, o3, _⟩ := arnd_ok.1 ok
    omega
theorem nout_gf (l : List Tok) (x li : Nat) : (nOut l x li).gf = x := by unfold nOut; split <;> rfl
theorem stk_ne {l : List Tok} {j : Nat} {s : List Int} (hj : j ≤ l.length) (hs : stkGo 0 (l.take j) [] = s) (h : 0 ≤ aroundL l j) : ∃ s' p, s = s' ++ [p] ∧ aroundL l j = p := by
  rw [around_at hj, hs] at h ⊢
  have hne : s ≠ [] := by intro e; subst e; simp at h
  exact ⟨s.dropLast, s.getLast hne, (List.dropLast_concat_getLast hne).symm, by rw [List.getLast?_eq_some_getLast hne]; rfl⟩
/-- What NestOutdents says, plain. -/
theorem outdents_plain {l : List Tok} (ok : (houseCheck l).2 = 0) {n : Nat} (hn : n ≤ l.length) {p : Int} {r : List Int} (hi : itemsL l n = p :: r) (hok : outOk l p.toNat) (hre : remapErr l (nOut l p.toNat (aroundL l p).toNat) = 0) :
    (houseCheck (stepDo l (nOut l p.toNat (aroundL l p).toNat))).2 = 0 ∧ textB (stepDo l (nOut l p.toNat (aroundL l p).toNat)) = textB l ∧
    ∃ dst : Nat, (dst : Int) = (n : Int) - (nOut l p.toNat (aroundL l p).toNat).gf + (nOut l p.toNat (aroundL l p).toNat).fr + (nOut l p.toNat (aroundL l p).toNat).ins ∧ dst ≤ (stepDo l (nOut l p.toNat (aroundL l p).toNat)).length ∧
      (itemsL (stepDo l (nOut l p.toNat (aroundL l p).toNat)) dst).length + 1 = (itemsL l n).length := by
  have hy := (remap_zero.1 hre).2.2.2
  have h0 := nout_gap hre
  obtain ⟨x, j, o, y, s, M, B', Bp, R, c, m, rfl, g5, hx, ho, h6, hM, hnm, e2, e3, e4, e5, htx, hBp, e1, hsi, g1, g2, g3, g4, hjx⟩ := lay_of ok hn hi h0
  simp only [Int.toNat_natCast] at *
  rw [e2] at hre hy ⊢
  rw [Int.toNat_natCast] at hre hy ⊢
  obtain ⟨_, a1, a2, a3, a4⟩ := hok
  rw [e2] at a1 a2 a3 a4
  rw [Int.toNat_natCast] at a3
  have hxl := (List.getElem?_eq_some_iff.1 hx).1
  obtain ⟨s', q', hs', hq'⟩ := stk_ne (by omega) hsi a1
  rw [hq'] at a2 a4
  obtain ⟨q, zq, Bq, rfl, hqj, hzq, hz1, htj, hBq, hsq⟩ := around_piece (house_dpt ok) j (by omega) s' q' (by rw [hsi, hs'])
  rw [Int.toNat_natCast] at a4
  have hz6 : zq.t = 6 := by
    have : tyAt l (q : Int) = zq.t := by simp [tyAt, hzq]
    omega
  -- the two ends behind it
  obtain ⟨j1, c1, f1, f2, f3⟩ := get_pos a3 (by omega)
  obtain ⟨j2, c2, f4, f5, f6⟩ := get_pos a4 (by omega)
  have hlx : (l.take x).length = x := by rw [List.length_take]; omega
  have hRd : R = l.drop (x + 1 + (M ++ B').length + 1) := by
    conv => rhs; rw [g1]
    rw [show l.take x ++ (o :: ((M ++ B') ++ (c :: R))) = (l.take x ++ o :: ((M ++ B') ++ [c])) ++ R by simp, List.drop_left' (by simp only [List.length_append, List.length_cons, List.length_nil, hlx]; omega)]
  have hR : R = c1 :: c2 :: l.drop (x + 1 + (M ++ B').length + 3) := by
    rw [hRd, drop_cons (by rw [show x + 1 + (M ++ B').length + 1 = j1 by omega]; exact f2), drop_cons (by rw [show x + 1 + (M ++ B').length + 1 + 1 = j2 by omega]; exact f5)]
  have hljq : (l.take j).length = j := by rw [List.length_take]; omega
  have hlq : (l.take q).length = q := by rw [List.length_take]; omega
  have hj2 : j = q + 1 + Bq.length := by
    have := congrArg List.length htj
    rw [List.length_append, List.length_cons, hljq, hlq] at this
    omega
  have hx2 : x = q + 1 + Bq.length + 1 + Bp.length := by
    have := congrArg List.length htx
    rw [List.length_append, List.length_cons, hljq, hlx] at this
    omega
  generalize hR' : l.drop (x + 1 + (M ++ B').length + 3) = R' at hR
  generalize hQ : l.take q = Q at htj hlq
  have L : Lay l Q Bq Bp (M ++ B') (c1 :: c2 :: R') zq y o c := by
    refine ⟨?_, hz1, e4, ho, g2, hBq, hBp, g3⟩
    conv => lhs; rw [g1]
    rw [htx, htj, hR]
    simp
  have hout := L.out
  rw [hlq, ← hx2, ← hj2] at hout
  rw [hout] at hy ⊢
  have gf : (nOut l x j).gf = x := nout_gf l x j
  have hlev := level_tstk (house_dpt ok) hn
  have htl : tstk (l.take n) [] = tstk M (6 :: 5 :: 6 :: tstk Q []) := by
    have h9 := tstk_in (P := l.take x) (M := M) (Z := B' ++ (c :: R)) (o := o) ho n (by rw [hlx]; omega)
    have hgl : l.take x ++ (o :: (M ++ (B' ++ (c :: R)))) = l := by
      conv => rhs; rw [g1]
      simp
    rw [hgl] at h9
    rw [h9, h6, around_tstk htx e4 hBp, e5, around_tstk (l := l) (i := q) (n := j) (by rw [hQ]; exact htj) hz1 hBq, hz6, hQ]
  rw [hlev, htl]
  by_cases hb : Bp = []
  · rw [if_pos hb] at hy ⊢
    subst hb
    refine ⟨hy, ?_, j + 1 + 1 + M.length, ?_, by simp; omega, ?_⟩
    · rw [L.eq]
      simp only [textB_app, textB_nil, List.nil_append, List.append_nil, textB_shut (show zq.k ≠ 0 by omega), textB_shut (show y.k ≠ 0 by omega), textB_shut (show c1.k ≠ 0 by omega), textB_shut (show c2.k ≠ 0 by omega), textB_shut (show c.k ≠ 0 by omega), textB_shut (show o.k ≠ 0 by omega), textB_shut (show shutT.k ≠ 0 by decide)]
    · rw [gf]
      unfold nOut
      rw [if_pos (by simp at hx2; omega)]
      show _ = (n : Int) - x + j + 1
      simp at hx2
      omega
    · rw [level_tstk (house_dpt hy) (by simp; omega)]
      have h9 := tstk_in (P := Q ++ (zq :: (Bq ++ [shutT]))) (M := M) (Z := B' ++ (c :: R')) (o := o) ho (j + 1 + 1 + M.length) (by simp; omega)
      rw [show (Q ++ (zq :: (Bq ++ [shutT]))) ++ (o :: (M ++ (B' ++ (c :: R')))) = Q ++ (zq :: (Bq ++ (shutT :: (o :: ((M ++ B') ++ (c :: R')))))) by simp] at h9
      rw [h9]
      have h8 : tstk (Q ++ (zq :: (Bq ++ [shutT]))) [] = tstk Q [] := by
        rw [tstk_app, tstk, if_pos hz1, tstk_app, dpt_bal hBq]
        simp [tstk]
      rw [h8, h6]
      exact (count_v hM _ _ 1 (by simp)).symm
  · rw [if_neg hb] at hy ⊢
    have hbl : Bp.length ≠ 0 := fun e => hb (List.eq_nil_of_length_eq_zero e)
    refine ⟨hy, ?_, x + 2 + 1 + M.length, ?_, by simp; omega, ?_⟩
    · rw [L.eq]
      simp only [textB_app, textB_nil, List.nil_append, List.append_nil, textB_shut (show zq.k ≠ 0 by omega), textB_shut (show y.k ≠ 0 by omega), textB_shut (show c1.k ≠ 0 by omega), textB_shut (show c2.k ≠ 0 by omega), textB_shut (show c.k ≠ 0 by omega), textB_shut (show o.k ≠ 0 by omega), textB_shut (show shutT.k ≠ 0 by decide)]
    · rw [gf]
      unfold nOut
      rw [if_neg (by omega)]
      show _ = (n : Int) - x + x + 2
      omega
    · rw [level_tstk (house_dpt hy) (by simp; omega)]
      have h9 := tstk_in (P := Q ++ (zq :: (Bq ++ (y :: (Bp ++ [shutT, shutT]))))) (M := M) (Z := B' ++ (c :: R')) (o := o) ho (x + 2 + 1 + M.length) (by simp; omega)
      rw [show (Q ++ (zq :: (Bq ++ (y :: (Bp ++ [shutT, shutT]))))) ++ (o :: (M ++ (B' ++ (c :: R')))) = Q ++ (zq :: (Bq ++ (y :: (Bp ++ (shutT :: shutT :: (o :: ((M ++ B') ++ (c :: R')))))))) by simp] at h9
      rw [h9]
      have h8 : tstk (Q ++ (zq :: (Bq ++ (y :: (Bp ++ [shutT, shutT]))))) [] = tstk Q [] := by
        rw [tstk_app, tstk, if_pos hz1, tstk_app, dpt_bal hBq, tstk, if_pos e4, tstk_app, dpt_bal hBp]
        simp [tstk]
      rw [h8, h6]
      exact (count_v hM _ _ 1 (by simp)).symm

/-! ### Indent -/
/-- Does what is ahead of the item end with a list like its own? -/
def indA (l : List Tok) (x li : Nat) : Prop := 2 ≤ x ∧ l[x - 2]? = some shutT ∧ l[(aroundL l ((x - 2 : Nat) : Int)).toNat]? = l[li]?
instance (l : List Tok) (x li : Nat) : Decidable (indA l x li) := by unfold indA; infer_instance
def nInd (l : List Tok) (x li : Nat) : StepD :=
  if indA l x li then arnd ((x : Int) - 2) (partL l x + 1) x (partL l x + 1) 0 [shutT, shutT] else arnd ((x : Int) - 1) (partL l x + 1) x (partL l x + 1) 1 [(l[li]?).getD shutT, shutT, shutT]
theorem nind_gap {l : List Tok} {x li : Nat} (h : remapErr l (nInd l x li) = 0) : 0 ≤ partL l x := by
  obtain ⟨_, r2, _, _⟩ := remap_zero.1 h
  obtain ⟨_, ok⟩ := step_check_zero.1 r2
  unfold nInd at ok
  split at ok
  · obtain ⟨_, _, o3, _⟩ := arnd_ok.1 ok
    omega
  · obtain ⟨_, _, o3, _⟩ := arnd_ok.1 ok
    omega
theorem house_nonempty {l : List Tok} (ok : (houseCheck l).2 = 0) {p : Nat} {o c : Tok} (hp : l[p]? = some o) (h1 : o.k = 1) (h5 : o.t = 5) (hc : l[p + 1]? = some c) (h2 : c.k = 2) : False := by
  have hpl := (List.getElem?_eq_some_iff.1 hp).1
  obtain ⟨top, below, r1, ⟨t, r2, _⟩, hR, hM⟩ := at_level ok (Nat.le_of_lt hpl)
  unfold hRun at r2
  rw [drop_cons hp, ckRun_cons, if_neg (by omega)] at r2
  split at r2
  · try rw [if_pos h1] at r2
    rw [drop_cons hc, ckRun_cons, if_pos h2] at r2
    simp only at r2
    split at r2
    · rename_i ha
      rw [h5] at ha
      have := ((house_sig 5).acc []).1 ha
      have h9 : nnOf houseGroups (ruleOf houseRules 5).2 = false := by kernel_rfl
      rw [h9] at this
      simp at this
    · cases r2
  · cases r2
/-- Outdent of what Indent made: what was. -/
theorem back_plain {y Q Bq Bp M B' R : List Tok} {zq yp o c : Tok} {m : Nat} (L : Lay y Q Bq Bp (M ++ B') (shutT :: shutT :: R) zq yp o c) (hz : zq.t = 6) (h6 : o.t = 6) (hM : dpt 0 M = some m) (hn : noItem M) (ok : (houseCheck y).2 = 0)
    (hl : (houseCheck (stepDo y (nOut y (Q.length + 1 + Bq.length + 1 + Bp.length) (Q.length + 1 + Bq.length)))).2 = 0) :
    ∃ r, itemsL y ((Q.length + 1 + Bq.length + 1 + Bp.length + 1 + M.length : Nat) : Int) = ((Q.length + 1 + Bq.length + 1 + Bp.length : Nat) : Int) :: r ∧ outOk y (Q.length + 1 + Bq.length + 1 + Bp.length) ∧ aroundL y ((Q.length + 1 + Bq.length + 1 + Bp.length : Nat) : Int) = ((Q.length + 1 + Bq.length : Nat) : Int) ∧
      remapErr y (nOut y (Q.length + 1 + Bq.length + 1 + Bp.length) (Q.length + 1 + Bq.length)) = 0 := by
  have hy : y = (Q ++ (zq :: (Bq ++ (yp :: Bp)))) ++ (o :: M ++ (B' ++ (c :: shutT :: shutT :: R))) := by
    rw [L.eq]; simp
  have hyl : y.length ≤ 2048 := house_len_le ok
  obtain ⟨r, hr⟩ := item_of (P := Q ++ (zq :: (Bq ++ (yp :: Bp)))) (M := M) (Z := B' ++ (c :: shutT :: shutT :: R)) (o := o) (m := m) (by rw [← hy]; exact house_dpt ok) L.ko h6 hM hn
  rw [← hy] at hr
  have e1 : (Q ++ (zq :: (Bq ++ (yp :: Bp)))).length = Q.length + 1 + Bq.length + 1 + Bp.length := by simp; omega
  rw [e1] at hr
  have e4 := L.places.2.2.2
  have hlen : y.length = Q.length + 1 + Bq.length + 1 + Bp.length + 1 + (M ++ B').length + 3 + R.length := by
    rw [L.eq]; simp; omega
  refine ⟨r, hr, (L.ends rfl rfl).2 hz, L.places.1, remap_zero.2 ⟨flat_of_house ok, step_check_zero.2 ?_, ?_, hl⟩⟩
  · have rs : ∀ z ∈ [shutT, shutT], rightB z = true := by
      intro z hz
      simp at hz
      subst hz
      rfl
    unfold nOut
    split
    · exact ⟨by simp [arnd], arnd_ok.2 ⟨by omega, by omega, by omega, by omega, by rw [e4]; omega, by omega, by simp, fun z hz => rs z (by simp at hz ⊢; exact hz)⟩⟩
    · exact ⟨by simp [arnd], arnd_ok.2 ⟨by omega, by omega, by omega, by omega, by rw [e4]; omega, by omega, by simp, rs⟩⟩
  · unfold nOut
    split
    · show partL y _ + 3 ≤ _
      rw [e4]; omega
    · show partL y _ + 3 ≤ _
      rw [e4]; omega
/-- What NestIndents says, plain. -/
theorem indents_plain {l : List Tok} (ok : (houseCheck l).2 = 0) {n : Nat} (hn : n ≤ l.length) {p : Int} {r : List Int} (hi : itemsL l n = p :: r) (hsh : l[p.toNat - 1]? = some shutT) (hre : remapErr l (nInd l p.toNat (aroundL l p).toNat) = 0) :
    (houseCheck (stepDo l (nInd l p.toNat (aroundL l p).toNat))).2 = 0 ∧ textB (stepDo l (nInd l p.toNat (aroundL l p).toNat)) = textB l ∧
    ∃ dst : Nat, (dst : Int) = (n : Int) - (nInd l p.toNat (aroundL l p).toNat).gf + (nInd l p.toNat (aroundL l p).toNat).fr + (nInd l p.toNat (aroundL l p).toNat).ins ∧ dst ≤ (stepDo l (nInd l p.toNat (aroundL l p).toNat)).length ∧
      (itemsL (stepDo l (nInd l p.toNat (aroundL l p).toNat)) dst).length = (itemsL l n).length + 1 ∧
      ∃ (x2 : Nat) (r2 : List Int) (li2 : Nat), itemsL (stepDo l (nInd l p.toNat (aroundL l p).toNat)) dst = (x2 : Int) :: r2 ∧ outOk (stepDo l (nInd l p.toNat (aroundL l p).toNat)) x2 ∧ aroundL (stepDo l (nInd l p.toNat (aroundL l p).toNat)) x2 = (li2 : Int) ∧
        remapErr (stepDo l (nInd l p.toNat (aroundL l p).toNat)) (nOut (stepDo l (nInd l p.toNat (aroundL l p).toNat)) x2 li2) = 0 ∧ stepDo (stepDo l (nInd l p.toNat (aroundL l p).toNat)) (nOut (stepDo l (nInd l p.toNat (aroundL l p).toNat)) x2 li2) = l := by
  have hy := (remap_zero.1 hre).2.2.2
  have h0 := nind_gap hre
  obtain ⟨x, j, o, y, s, M, B', Bp, R, c, m, rfl, g5, hx, ho, h6, hM, hnm, e2, e3, e4, e5, htx, hBp, e1, hsi, g1, g2, g3, g4, hjx⟩ := lay_of ok hn hi h0
  simp only [Int.toNat_natCast] at *
  rw [e2] at hre hy ⊢
  rw [Int.toNat_natCast] at hre hy ⊢
  have hd := house_dpt ok
  have hxl := (List.getElem?_eq_some_iff.1 hx).1
  have hlx : (l.take x).length = x := by rw [List.length_take]; omega
  obtain ⟨x1, rfl⟩ : ∃ x1, x = x1 + 1 := ⟨x - 1, by omega⟩
  rw [show x1 + 1 - 1 = x1 by omega] at hsh
  have hx1l : (l.take x1).length = x1 := by rw [List.length_take]; omega
  have htx1 : l.take (x1 + 1) = l.take x1 ++ [shutT] := by rw [List.take_add_one, hsh]; rfl
  -- what is shut ahead of it: an item
  have hst := stk_snoc hsh
  unfold stkStep at hst
  rw [if_neg (by decide), if_pos rfl, e1] at hst
  obtain ⟨u1, q', hu1⟩ : ∃ u1 q', stkGo 0 (l.take x1) [] = u1 ++ [q'] := by
    have hne : stkGo 0 (l.take x1) [] ≠ [] := by intro e; rw [e] at hst; simp at hst
    exact ⟨_, _, (List.dropLast_concat_getLast hne).symm⟩
  rw [hu1, List.dropLast_concat] at hst
  subst hst
  obtain ⟨q, zq, Bq, rfl, hqx, hzq, hz1, htq, hBq, hsq⟩ := around_piece hd x1 (by omega) _ q' hu1
  have hz6 : zq.t = 6 := list_item ok hzq hz1 hsq e3 e5
  have hlq : (l.take q).length = q := by rw [List.length_take]; omega
  have hx1q : x1 = q + 1 + Bq.length := by
    have := congrArg List.length htq
    rw [List.length_append, List.length_cons, hx1l, hlq] at this
    omega
  have hlev := level_tstk hd hn
  have hR' : R = l.drop (x1 + 1 + 1 + (M ++ B').length + 1) := by
    conv => rhs; rw [g1]
    rw [show l.take (x1 + 1) ++ (o :: ((M ++ B') ++ (c :: R))) = (l.take (x1 + 1) ++ o :: ((M ++ B') ++ [c])) ++ R by simp, List.drop_left' (by simp only [List.length_append, List.length_cons, List.length_nil, hlx]; omega)]
  have hgap : (l.take (partL l (x1 + 1) + 1).toNat).drop (x1 + 1) = o :: ((M ++ B') ++ [c]) := by
    have hA : l = (l.take (x1 + 1) ++ (o :: ((M ++ B') ++ [c]))) ++ R := by
      conv => lhs; rw [g1]
      simp
    rw [g4]
    conv => lhs; rw [hA]
    rw [List.take_left' (by simp only [List.length_append, List.length_cons, List.length_nil, hlx]; omega), List.drop_left' hlx]
  have hdrop : l.drop (partL l (x1 + 1) + 1).toNat = R := by
    rw [hR', g4]
    congr 1
  have tT : tstk (l.take (x1 + 1)) [] = tstk (l.take q) [] := by
    rw [htx1, tstk_app, around_tstk htq hz1 hBq]
    rfl
  have htl : tstk (l.take n) [] = tstk M (6 :: tstk (l.take q) []) := by
    have h9 := tstk_in (P := l.take (x1 + 1)) (M := M) (Z := B' ++ (c :: R)) (o := o) ho n (by rw [hlx]; omega)
    have hgl : l.take (x1 + 1) ++ (o :: (M ++ (B' ++ (c :: R)))) = l := by
      conv => rhs; rw [g1]
      simp
    rw [hgl] at h9
    rw [h9, h6, tT]
  rw [hlev, htl]
  have hlw : l = l.take q ++ (zq :: (Bq ++ (shutT :: (o :: ((M ++ B') ++ (c :: R)))))) := by
    conv => lhs; rw [g1, htx1, htq]
    simp
  by_cases hA : indA l (x1 + 1) j
  · -- into the list that is there
    obtain ⟨ha1, ha2, ha3⟩ := hA
    obtain ⟨x2, rfl⟩ : ∃ x2, x1 = x2 + 1 := ⟨x1 - 1, by omega⟩
    have hA : indA l (x2 + 1 + 1) j := ⟨ha1, ha2, ha3⟩
    rw [show x2 + 1 + 1 - 2 = x2 by omega] at ha2 ha3
    have hx2l : (l.take x2).length = x2 := by rw [List.length_take]; omega
    have hst2 := stk_snoc ha2
    unfold stkStep at hst2
    rw [if_neg (by decide), if_pos rfl, hu1] at hst2
    obtain ⟨u2, p', hu2⟩ : ∃ u2 p', stkGo 0 (l.take x2) [] = u2 ++ [p'] := by
      have hne : stkGo 0 (l.take x2) [] ≠ [] := by intro e; rw [e] at hst2; simp at hst2
      exact ⟨_, _, (List.dropLast_concat_getLast hne).symm⟩
    rw [hu2, List.dropLast_concat] at hst2
    subst hst2
    obtain ⟨pp, yp, B3, rfl, hpx, hyp, hy1, htp, hB3, hsp⟩ := around_piece hd x2 (by omega) _ p' hu2
    have hap : aroundL l (x2 : Int) = (pp : Int) := by rw [around_at (by omega), hu2]; simp
    rw [hap, Int.toNat_natCast, hyp, e3] at ha3
    simp only [Option.some.injEq] at ha3
    subst ha3
    obtain ⟨q2, z2, B4, hq2, hq2p, hz2, hz21, htq2, hB4, hsq2⟩ := around_piece hd pp (by omega) _ _ hsp
    have : q2 = q := by omega
    subst this
    rw [hzq] at hz2
    simp only [Option.some.injEq] at hz2
    subst hz2
    have hppl : (l.take pp).length = pp := by rw [List.length_take]; omega
    have hpq : pp = q2 + 1 + B4.length := by
      have := congrArg List.length htq2
      rw [List.length_append, List.length_cons, hppl, hlq] at this
      omega
    have hx2p : x2 = pp + 1 + B3.length := by
      have := congrArg List.length htp
      rw [List.length_append, List.length_cons, hx2l, hppl] at this
      omega
    have hB3ne : B3 ≠ [] := by
      intro e
      subst e
      simp at hx2p
      refine house_nonempty ok hyp hy1 e5 (c := shutT) ?_ rfl
      rw [← hx2p]
      exact ha2
    have hlB : B3.length ≠ 0 := fun e => hB3ne (List.eq_nil_of_length_eq_zero e)
    have htx2 : l.take (x2 + 1) = l.take x2 ++ [shutT] := by rw [List.take_add_one, ha2]; rfl
    have hdo : stepDo l (nInd l (x2 + 1 + 1) j) = l.take q2 ++ (zq :: (B4 ++ (yp :: (B3 ++ (o :: ((M ++ B') ++ (c :: shutT :: shutT :: R))))))) := by
      unfold nInd
      rw [if_pos hA, arnd_do]
      rw [show (((x2 + 1 + 1 : Nat) : Int)).toNat = x2 + 1 + 1 by omega, hgap, hdrop, show (((x2 + 1 + 1 : Nat) : Int) - 2).toNat = x2 by omega, htp, htq2]
      simp
    have hgf : (nInd l (x2 + 1 + 1) j).gf = ((x2 + 1 + 1 : Nat) : Int) := by unfold nInd; rw [if_pos hA]; rfl
    have hfr : (nInd l (x2 + 1 + 1) j).fr = ((x2 + 1 + 1 : Nat) : Int) - 2 := by unfold nInd; rw [if_pos hA]; rfl
    have hin : (nInd l (x2 + 1 + 1) j).ins = 0 := by unfold nInd; rw [if_pos hA]; rfl
    rw [hdo] at hy ⊢
    rw [hgf, hfr, hin]
    have L : Lay (l.take q2 ++ (zq :: (B4 ++ (yp :: (B3 ++ (o :: ((M ++ B') ++ (c :: shutT :: shutT :: R)))))))) (l.take q2) B4 B3 (M ++ B') (shutT :: shutT :: R) zq yp o c := ⟨rfl, hz1, hy1, ho, g2, hB4, hB3, g3⟩
    have hback : stepDo (l.take q2 ++ (zq :: (B4 ++ (yp :: (B3 ++ (o :: ((M ++ B') ++ (c :: shutT :: shutT :: R)))))))) (nOut (l.take q2 ++ (zq :: (B4 ++ (yp :: (B3 ++ (o :: ((M ++ B') ++ (c :: shutT :: shutT :: R)))))))) ((l.take q2).length + 1 + B4.length + 1 + B3.length) ((l.take q2).length + 1 + B4.length)) = l := by
      rw [L.out, if_neg hB3ne]
      conv => rhs; rw [g1, htx1, htx2, htp, htq2]
      simp
    obtain ⟨r2, b1, b2, b3, b4⟩ := back_plain L hz6 h6 hM hnm hy (by rw [hback]; exact ok)
    refine ⟨hy, ?_, x2 + 1 + M.length, by omega, by simp [hlq]; omega, ?_, (l.take q2).length + 1 + B4.length + 1 + B3.length, r2, (l.take q2).length + 1 + B4.length, ?_, b2, b3, b4, hback⟩
    · conv => rhs; rw [g1, htx1, htx2, htp, htq2]
      simp only [textB_app, textB_nil, List.nil_append, List.append_nil, textB_shut (show zq.k ≠ 0 by omega), textB_shut (show yp.k ≠ 0 by omega), textB_shut (show c.k ≠ 0 by omega), textB_shut (show o.k ≠ 0 by omega), textB_shut (show shutT.k ≠ 0 by decide)]
      simp [textB_none (show shutT.k ≠ 0 by decide), List.append_assoc]
    · rw [level_tstk (house_dpt hy) (by simp [hlq]; omega)]
      have h9 := tstk_in (P := l.take q2 ++ (zq :: (B4 ++ (yp :: B3)))) (M := M) (Z := B' ++ (c :: shutT :: shutT :: R)) (o := o) ho (x2 + 1 + M.length) (by simp [hlq]; omega)
      rw [show (l.take q2 ++ (zq :: (B4 ++ (yp :: B3)))) ++ (o :: (M ++ (B' ++ (c :: shutT :: shutT :: R)))) = l.take q2 ++ (zq :: (B4 ++ (yp :: (B3 ++ (o :: ((M ++ B') ++ (c :: shutT :: shutT :: R))))))) by simp] at h9
      rw [h9]
      have h8 : tstk (l.take q2 ++ (zq :: (B4 ++ (yp :: B3)))) [] = yp.t :: zq.t :: tstk (l.take q2) [] := by
        rw [tstk_app, tstk, if_pos hz1, tstk_app, dpt_bal hB4, tstk, if_pos hy1, dpt_bal hB3]
      rw [h8, h6, hz6, e5]
      exact count_v hM _ _ 1 (by simp)
    · rw [show (x2 + 1 + M.length : Nat) = (l.take q2).length + 1 + B4.length + 1 + B3.length + 1 + M.length by rw [hlq]; omega]
      exact b1
  · -- into a list of its own
    have hdo : stepDo l (nInd l (x1 + 1) j) = l.take q ++ (zq :: (Bq ++ (y :: ([] ++ (o :: ((M ++ B') ++ (c :: shutT :: shutT :: R))))))) := by
      unfold nInd
      rw [if_neg hA, arnd_do]
      rw [show (((x1 + 1 : Nat) : Int)).toNat = x1 + 1 by omega, hgap, hdrop, show (((x1 + 1 : Nat) : Int) - 1).toNat = x1 by omega, htq, e3]
      simp
    have hgf : (nInd l (x1 + 1) j).gf = ((x1 + 1 : Nat) : Int) := by unfold nInd; rw [if_neg hA]; rfl
    have hfr : (nInd l (x1 + 1) j).fr = ((x1 + 1 : Nat) : Int) - 1 := by unfold nInd; rw [if_neg hA]; rfl
    have hin : (nInd l (x1 + 1) j).ins = 1 := by unfold nInd; rw [if_neg hA]; rfl
    rw [hdo] at hy ⊢
    rw [hgf, hfr, hin]
    have L : Lay (l.take q ++ (zq :: (Bq ++ (y :: ([] ++ (o :: ((M ++ B') ++ (c :: shutT :: shutT :: R)))))))) (l.take q) Bq [] (M ++ B') (shutT :: shutT :: R) zq y o c := ⟨rfl, hz1, e4, ho, g2, hBq, rfl, g3⟩
    have hback : stepDo (l.take q ++ (zq :: (Bq ++ (y :: ([] ++ (o :: ((M ++ B') ++ (c :: shutT :: shutT :: R)))))))) (nOut (l.take q ++ (zq :: (Bq ++ (y :: ([] ++ (o :: ((M ++ B') ++ (c :: shutT :: shutT :: R)))))))) ((l.take q).length + 1 + Bq.length + 1 + ([] : List Tok).length) ((l.take q).length + 1 + Bq.length)) = l := by
      rw [L.out, if_pos rfl]
      exact hlw.symm
    obtain ⟨r2, b1, b2, b3, b4⟩ := back_plain L hz6 h6 hM hnm hy (by rw [hback]; exact ok)
    refine ⟨hy, ?_, x1 + 1 + 1 + M.length, by omega, by simp [hlq]; omega, ?_, (l.take q).length + 1 + Bq.length + 1 + ([] : List Tok).length, r2, (l.take q).length + 1 + Bq.length, ?_, b2, b3, b4, hback⟩
    · conv => rhs; rw [hlw]
      simp only [textB_app, textB_nil, List.nil_append, List.append_nil, textB_shut (show zq.k ≠ 0 by omega), textB_shut (show y.k ≠ 0 by omega), textB_shut (show c.k ≠ 0 by omega), textB_shut (show o.k ≠ 0 by omega), textB_shut (show shutT.k ≠ 0 by decide)]
    · rw [level_tstk (house_dpt hy) (by simp [hlq]; omega)]
      have h9 := tstk_in (P := l.take q ++ (zq :: (Bq ++ [y]))) (M := M) (Z := B' ++ (c :: shutT :: shutT :: R)) (o := o) ho (x1 + 1 + 1 + M.length) (by simp [hlq]; omega)
      rw [show (l.take q ++ (zq :: (Bq ++ [y]))) ++ (o :: (M ++ (B' ++ (c :: shutT :: shutT :: R)))) = l.take q ++ (zq :: (Bq ++ (y :: ([] ++ (o :: ((M ++ B') ++ (c :: shutT :: shutT :: R))))))) by simp] at h9
      rw [h9]
      have h8 : tstk (l.take q ++ (zq :: (Bq ++ [y]))) [] = y.t :: zq.t :: tstk (l.take q) [] := by
        rw [tstk_app, tstk, if_pos hz1, tstk_app, dpt_bal hBq, tstk, if_pos e4]
        rfl
      rw [h8, h6, hz6, e5]
      exact count_v hM _ _ 1 (by simp)
    · rw [show (x1 + 1 + 1 + M.length : Nat) = (l.take q).length + 1 + Bq.length + 1 + ([] : List Tok).length + 1 + M.length by rw [hlq]; simp; omega]
      exact b1
end Go.Proofs.YtfapglhdakhbeaaGreatDoor
