/- A drawn region whose LAST operation (L: a store) breaks what the loads ahead of it read, where operations that read no memory may come behind it. (The walk is wip/emmac.py's '%regionV'.) edit.Toggle, plain: what it tells, what it refuses. step.do: what a step of marks leaves. edit.Toggle. (printed by gen/gen_edt.py) -/
import Derived.Test.YteeindicpbcjaaaGreatDoorHeld
import Derived.Test.YteeindicpbcjaaaGreatDoorMarkL
import Derived.Test.YteeindicpbcjaaaGreatDoorEdAw
import Derived.Test.YteeindicpbcjaaaGreatDoorEdLc
namespace Go.Proofs.YteeindicpbcjaaaGreatDoor
open Go
section
variable {P : Program} {ops : Array Oper} {Q : Exit → Act → World → Prop} {md : Region.Mode} {S : World → Prop} {L : Nat}

def wpAnyV (P : Program) (md : Region.Mode) (ops : Array Oper) (Q : Exit → Act → World → Prop) (S : World → Prop) (L : Nat) : Nat → Array Bool → Act → World → Prop
  | 0, listed, a, w => Region.ready md ops listed = [] ∧ Q .normal a w
  | fuel + 1, listed, a, w =>
    (Region.ready md ops listed = [] → Q .normal a w) ∧
    ∀ i ∈ Region.ready md ops listed, wpOp P ops Q i (fun a' w' => (i ≠ L → S w → S w') ∧ wpAnyV P md ops Q S L fuel (listed.setIfInBounds i true) a' w') a w

theorem wpAny_of_V : ∀ (fuel : Nat) (listed : Array Bool) (a : Act) (w : World), wpAnyV P md ops Q S L fuel listed a w → wpAny P md ops Q fuel listed a w
  | 0, _, _, _, h => h
  | fuel + 1, _, _, _, h => ⟨h.1, fun i hi => wpOp_mono (fun a' w' h' => wpAny_of_V fuel _ a' w' h'.2) (h.2 i hi)⟩

theorem wpAnyV_first {i : Nat} {oi : Oper} {v : Value} (hi : ops[i]? = some oi) (hsel : ∀ (j : Nat) (o : Oper) cs b, ops[j]? = some o → o.op ≠ .select cs b)
    (hQ : ∀ c a w, Q (.panic c) (a.put oi.dst v) w → Q (.panic c) a w) (hL : ∃ oL, ops[L]? = some oL ∧ ∃ e ∈ oL.after, Region.binds md e = true ∧ e.on = i) :
    ∀ (fuel : Nat) (listed : Array Bool) (a : Act) (w : World),
      (∀ j oj, ops[j]? = some oj → j ≠ i → listed.getD j true = false → (∀ e ∈ oj.after, Region.binds md e = true → e.on ≠ i) → oi.apart ops oj = true) →
      i ∈ Region.ready md ops listed → YieldsIf P ops S oi v a → S w →
      wpAnyV P md ops Q S L fuel (listed.setIfInBounds i true) (a.put oi.dst v) w → wpAnyV P md ops Q S L (fuel + 1) listed a w := by
  have notL : ∀ (listed : Array Bool) (j : Nat), i ∈ Region.ready md ops listed → j ∈ Region.ready md ops listed → j ≠ L := by
    rintro listed j hr hj rfl
    obtain ⟨oL, hoL, e, he, hb, heq⟩ := hL
    obtain ⟨_, oj, hoj, hall⟩ := mem_ready.1 hj
    rw [hoL] at hoj
    cases hoj
    have h1 := hall e he hb
    have h0 := (mem_ready.1 hr).1
    rw [heq] at h1
    rcases Nat.lt_or_ge i listed.size with h' | h'
    · simp [h'] at h0 h1; rw [h0] at h1; cases h1
    · simp [Array.getElem?_eq_none h'] at h1
  intro fuel
  induction fuel with
  | zero =>
    intro listed a w _ hr hy hS H
    refine ⟨fun h => (by rw [h] at hr; cases hr), fun j hj => ?_⟩
    by_cases hji : j = i
    · subst hji; exact hy.wpOp hi hS ⟨fun _ h => h, H⟩
    · have := ready_mono hj hji
      rw [H.1] at this
      cases this
  | succ fuel ih =>
    intro listed a w hfree hr hy hS H
    refine ⟨fun h => (by rw [h] at hr; cases hr), fun j hj => ?_⟩
    by_cases hji : j = i
    · subst hji; exact hy.wpOp hi hS ⟨fun _ h => h, H⟩
    · have hjL := notL listed j hr hj
      have h1 := H.2 j (ready_mono hj hji)
      obtain ⟨hjun, oj, hoj, hall⟩ := mem_ready.1 hj
      have hnot : ∀ e ∈ oj.after, Region.binds md e = true → e.on ≠ i := fun e he hb heq => by
        have h1 := hall e he hb
        have h0 := (mem_ready.1 hr).1
        rw [heq] at h1
        rcases Nat.lt_or_ge i listed.size with h' | h'
        · simp [h'] at h0 h1; rw [h0] at h1; cases h1
        · simp [Array.getElem?_eq_none h'] at h1
      have h2 := wpOp_putIf hoj (hfree j oj hoj hji hjun hnot) (fun cs b => hsel i oi cs b hi) (fun cs b => hsel j oj cs b hoj) hQ hy h1
      have hfree' : ∀ k ok, ops[k]? = some ok → k ≠ i → (listed.setIfInBounds j true).getD k true = false →
          (∀ e ∈ ok.after, Region.binds md e = true → e.on ≠ i) → oi.apart ops ok = true := fun k ok hk hki hun hno => by
        refine hfree k ok hk hki ?_ hno
        by_cases hjk : j = k
        · subst hjk; exact hjun
        · rw [getD_set_ne true hjk] at hun; exact hun
      refine wpOp_mono (fun a' w' h3 => ⟨h3.2.1, ih (listed.setIfInBounds j true) a' w' hfree' (ready_mono hr (Ne.symm hji)) h3.1 (h3.2.1 hjL hS) ?_⟩) h2
      rw [Array.setIfInBounds_comm _ _ hji]
      exact h3.2.2

theorem wpAnyV_any {i : Nat} {oi : Oper} {v : Value} (hi : ops[i]? = some oi) (hsel : ∀ (j : Nat) (o : Oper) cs b, ops[j]? = some o → o.op ≠ .select cs b)
    (hQ : ∀ c a w, Q (.panic c) (a.put oi.dst v) w → Q (.panic c) a w) :
    ∀ (fuel : Nat) (listed : Array Bool) (a : Act) (w : World),
      (∀ j oj, ops[j]? = some oj → j ≠ i → listed.getD j true = false → (∀ e ∈ oj.after, Region.binds md e = true → e.on ≠ i) → oi.apart ops oj = true) →
      i ∈ Region.ready md ops listed → YieldsIf P ops (fun _ => True) oi v a →
      wpAnyV P md ops Q S L fuel (listed.setIfInBounds i true) (a.put oi.dst v) w → wpAnyV P md ops Q S L (fuel + 1) listed a w := by
  intro fuel
  induction fuel with
  | zero =>
    intro listed a w _ hr hy H
    refine ⟨fun h => (by rw [h] at hr; cases hr), fun j hj => ?_⟩
    by_cases hji : j = i
    · subst hji; exact hy.wpOp hi trivial ⟨fun _ h => h, H⟩
    · have := ready_mono hj hji
      rw [H.1] at this
      cases this
  | succ fuel ih =>
    intro listed a w hfree hr hy H
    refine ⟨fun h => (by rw [h] at hr; cases hr), fun j hj => ?_⟩
    by_cases hji : j = i
    · subst hji; exact hy.wpOp hi trivial ⟨fun _ h => h, H⟩
    · have h1 := H.2 j (ready_mono hj hji)
      obtain ⟨hjun, oj, hoj, hall⟩ := mem_ready.1 hj
      have hnot : ∀ e ∈ oj.after, Region.binds md e = true → e.on ≠ i := fun e he hb heq => by
        have h1 := hall e he hb
        have h0 := (mem_ready.1 hr).1
        rw [heq] at h1
        rcases Nat.lt_or_ge i listed.size with h' | h'
        · simp [h'] at h0 h1; rw [h0] at h1; cases h1
        · simp [Array.getElem?_eq_none h'] at h1
      have h2 := wpOp_putIf hoj (hfree j oj hoj hji hjun hnot) (fun cs b => hsel i oi cs b hi) (fun cs b => hsel j oj cs b hoj) hQ hy h1
      have hfree' : ∀ k ok, ops[k]? = some ok → k ≠ i → (listed.setIfInBounds j true).getD k true = false →
          (∀ e ∈ ok.after, Region.binds md e = true → e.on ≠ i) → oi.apart ops ok = true := fun k ok hk hki hun hno => by
        refine hfree k ok hk hki ?_ hno
        by_cases hjk : j = k
        · subst hjk; exact hjun
        · rw [getD_set_ne true hjk] at hun; exact hun
      refine wpOp_mono (fun a' w' h3 => ⟨h3.2.1, ih (listed.setIfInBounds j true) a' w' hfree' (ready_mono hr (Ne.symm hji)) h3.1 ?_⟩) h2
      rw [Array.setIfInBounds_comm _ _ hji]
      exact h3.2.2

def waitsOnV (md : Region.Mode) (ops : Array Oper) (L i : Nat) : Bool := match ops[L]? with
  | some o => o.after.any fun e => Region.binds md e && e.on == i
  | none => false
theorem waitsOnV_spec {i : Nat} (h : waitsOnV md ops L i = true) : ∃ oL, ops[L]? = some oL ∧ ∃ e ∈ oL.after, Region.binds md e = true ∧ e.on = i := by
  unfold waitsOnV at h
  split at h
  · rename_i o ho
    obtain ⟨e, he, hb⟩ := Array.any_eq_true'.1 h
    simp only [Bool.and_eq_true, beq_iff_eq] at hb
    exact ⟨o, ho, e, he, hb.1, hb.2⟩
  · cases h
theorem wpAnyV_take {i : Nat} {oi : Oper} {v : Value} {fuel : Nat} {listed : Array Bool} {a : Act} {w : World} (hi : ops[i]? = some oi)
    (hs : Region.noSelect ops = true) (hf : Region.free md ops listed i = true) (hr : (Region.ready md ops listed).contains i = true) (hL : waitsOnV md ops L i = true)
    (hQ : ∀ c a w, Q (.panic c) (a.put oi.dst v) w → Q (.panic c) a w) (hy : YieldsIf P ops S oi v a) (hS : S w)
    (h : wpAnyV P md ops Q S L fuel (listed.setIfInBounds i true) (a.put oi.dst v) w) : wpAnyV P md ops Q S L (fuel + 1) listed a w :=
  wpAnyV_first hi (Region.noSelect_spec hs) hQ (waitsOnV_spec hL) fuel listed a w (Region.free_spec hi hf) (by simpa using hr) hy hS h
theorem wpAnyV_free {i : Nat} {oi : Oper} {v : Value} {fuel : Nat} {listed : Array Bool} {a : Act} {w : World} (hi : ops[i]? = some oi)
    (hs : Region.noSelect ops = true) (hf : Region.free md ops listed i = true) (hr : (Region.ready md ops listed).contains i = true)
    (hQ : ∀ c a w, Q (.panic c) (a.put oi.dst v) w → Q (.panic c) a w) (hy : YieldsIf P ops (fun _ => True) oi v a)
    (h : wpAnyV P md ops Q S L fuel (listed.setIfInBounds i true) (a.put oi.dst v) w) : wpAnyV P md ops Q S L (fuel + 1) listed a w :=
  wpAnyV_any hi (Region.noSelect_spec hs) hQ fuel listed a w (Region.free_spec hi hf) (by simpa using hr) hy h
theorem wpAnyV_one {i : Nat} {o : Oper} {fuel : Nat} {listed : Array Bool} {a : Act} {w : World} (hr : Region.ready md ops listed = [i]) (ho : ops[i]? = some o)
    (h : ∀ K' : Act → World → Prop, Shut (∀ a w', (i ≠ L → S w → S w') → ((i ≠ L → S w → S w') → wpAnyV P md ops Q S L fuel (listed.setIfInBounds i true) a w') → K' a w') → if Region.wanted o (yielded ops a.tmps) = true then Oper.wp P o a w K' Q else K' (a.put o.dst undef) w) :
    wpAnyV P md ops Q S L (fuel + 1) listed a w := by
  refine ⟨fun h => (by rw [hr] at h; cases h), fun j hj => ?_⟩
  rw [hr] at hj
  obtain rfl := List.mem_singleton.1 hj
  exact wpOp_step ho (fun K' hK => h K' (fun a w hS hW => hK a w ⟨hS, hW hS⟩))
theorem wpAnyV_done {listed : Array Bool} {a : Act} {w : World} (hr : Region.ready md ops listed = []) (h : Q .normal a w) : ∀ fuel, wpAnyV P md ops Q S L fuel listed a w
  | 0 => ⟨hr, h⟩
  | _ + 1 => ⟨fun _ => h, by rw [hr]; simp⟩
theorem wp_region_V (S : World → Prop) (L : Nat) {id : Nat} {a : Act} {w : World} (hm : P.follows .mixedOrders = true) (hS : S w.drew)
    (h : S w.drew → wpAnyV P .any ops Q S L ops.size (Array.replicate ops.size false) a w.drew) : (Code.region id ops true).wp P Q a w :=
  wp_region_any hm (wpAny_of_V _ _ _ _ (h hS))
theorem takeV (i : Nat) {oi : Oper} {v : Value} {fuel : Nat} {listed : Array Bool} {a : Act} {w : World} (hi : ops[i]? = some oi) (hc : (okH md ops listed i && waitsOnV md ops L i) = true)
    (hQ : ∀ c a w, Q (.panic c) (a.put oi.dst v) w → Q (.panic c) a w) (h1 : Region.wanted oi (yielded ops a.tmps) = true) (h2 : ∀ w, S w → (execOp a.eval oi).run P w = .ok (.value v) w) (hS : S w)
    (h : wpAnyV P md ops Q S L fuel (listed.setIfInBounds i true) (a.put oi.dst v) w) : wpAnyV P md ops Q S L (fuel + 1) listed a w := by
  rw [Bool.and_eq_true] at hc
  exact wpAnyV_take hi (okH_iff hc.1).1 (okH_iff hc.1).2.1 (okH_iff hc.1).2.2 hc.2 hQ (Or.inl ⟨h1, h2⟩) hS h
theorem freeV (i : Nat) {oi : Oper} {v : Value} {fuel : Nat} {listed : Array Bool} {a : Act} {w : World} (hi : ops[i]? = some oi) (hc : okH md ops listed i = true)
    (hQ : ∀ c a w, Q (.panic c) (a.put oi.dst v) w → Q (.panic c) a w) (h1 : Region.wanted oi (yielded ops a.tmps) = true) (h2 : ∀ w, (execOp a.eval oi).run P w = .ok (.value v) w)
    (h : wpAnyV P md ops Q S L fuel (listed.setIfInBounds i true) (a.put oi.dst v) w) : wpAnyV P md ops Q S L (fuel + 1) listed a w :=
  wpAnyV_free hi (okH_iff hc).1 (okH_iff hc).2.1 (okH_iff hc).2.2 hQ (Or.inl ⟨h1, fun w _ => h2 w⟩) h
theorem zV (i : Nat) {oi : Oper} {v : Value} {fuel : Nat} {listed : Array Bool} {a : Act} {w : World}
    (h : wpAnyV P md ops Q S L fuel (listed.setIfInBounds i true) (a.put oi.dst v) w) (hi : ops[i]? = some oi := by exact opAt rfl) (hc : (okH md ops listed i && waitsOnV md ops L i) = true := by kernel_rfl)
    (hQ : ∀ c a w, Q (.panic c) (a.put oi.dst v) w → Q (.panic c) a w := by exact fun _ _ _ h => h) (h1 : Region.wanted oi (yielded ops a.tmps) = true := by rfl)
    (h2 : ∀ w, S w → (execOp a.eval oi).run P w = .ok (.value v) w := by intro w hSw; (try dsimp only at hSw); go_simp; try with_reducible rfl) (hS : S w := by assumption) : wpAnyV P md ops Q S L (fuel + 1) listed a w :=
  takeV i hi hc hQ h1 h2 hS h
theorem yV (i : Nat) {oi : Oper} {v : Value} {fuel : Nat} {listed : Array Bool} {a : Act} {w : World}
    (h : wpAnyV P md ops Q S L fuel (listed.setIfInBounds i true) (a.put oi.dst v) w) (hi : ops[i]? = some oi := by exact opAt rfl) (hc : okH md ops listed i = true := by kernel_rfl)
    (hQ : ∀ c a w, Q (.panic c) (a.put oi.dst v) w → Q (.panic c) a w := by exact fun _ _ _ h => h) (h1 : Region.wanted oi (yielded ops a.tmps) = true := by rfl)
    (h2 : ∀ w, (execOp a.eval oi).run P w = .ok (.value v) w := by intro w; go_simp; try with_reducible rfl) : wpAnyV P md ops Q S L (fuel + 1) listed a w :=
  freeV i hi hc hQ h1 h2 h
end
end Go.Proofs.YteeindicpbcjaaaGreatDoor
namespace Go.Proofs.YteeindicpbcjaaaGreatDoor
set_option linter.unusedVariables false
set_option linter.unusedSimpArgs false

def withN (m : Int) (l : List Tok) : Nat := (l.filter (fun x => decide (x.k = 0) && decide (hasP x.m m))).length
def woutN (m : Int) (l : List Tok) : Nat := (l.filter (fun x => decide (x.k = 0) && !decide (hasP x.m m))).length
def seg (l : List Tok) (f t : Int) : List Tok := (l.take t.toNat).drop f.toNat
def togK (l : List Tok) (f t m : Int) : Int := if woutN m (seg l f t) = 0 then 3 else 2
def togErr (l : List Tok) (f t m : Int) : Int := if placesErr l f t ≠ 0 then placesErr l f t else if ¬ markOne m then 1 else if withN m (seg l f t) + woutN m (seg l f t) = 0 then 6 else remapErr l (markS (togK l f t m) f t m)
theorem withN_le (m : Int) (l : List Tok) : withN m l ≤ l.length := List.length_filter_le _ _
theorem woutN_le (m : Int) (l : List Tok) : woutN m l ≤ l.length := List.length_filter_le _ _
theorem withN_snoc {m : Int} {l : List Tok} {k : Nat} {x : Tok} (hx : l[k]? = some x) : withN m (l.take (k + 1)) = withN m (l.take k) + (if (decide (x.k = 0) && decide (hasP x.m m)) = true then 1 else 0) := by
  unfold withN
  rw [List.take_add_one, hx, List.filter_append, List.length_append]
  congr 1
  simp only [Option.toList_some, List.filter_cons, List.filter_nil]
  split <;> rfl
theorem woutN_snoc {m : Int} {l : List Tok} {k : Nat} {x : Tok} (hx : l[k]? = some x) : woutN m (l.take (k + 1)) = woutN m (l.take k) + (if (decide (x.k = 0) && !decide (hasP x.m m)) = true then 1 else 0) := by
  unfold woutN
  rw [List.take_add_one, hx, List.filter_append, List.length_append]
  congr 1
  simp only [Option.toList_some, List.filter_cons, List.filter_nil]
  split <;> rfl
theorem tog_zero {l : List Tok} {f t m : Int} : togErr l f t m = 0 ↔ (houseCheck l).2 = 0 ∧ 0 ≤ f ∧ f ≤ t ∧ t ≤ l.length ∧ markOne m ∧ 0 < withN m (seg l f t) + woutN m (seg l f t) ∧ remapErr l (markS (togK l f t m) f t m) = 0 := by
  unfold togErr
  by_cases h0 : placesErr l f t = 0
  · rw [if_neg (by omega)]
    obtain ⟨h1, h2, h3, h4⟩ := places_zero.1 h0
    by_cases h5 : markOne m
    · rw [if_neg (by simpa using h5)]
      by_cases h6 : withN m (seg l f t) + woutN m (seg l f t) = 0
      · rw [if_pos h6]
        exact ⟨fun h => absurd h (by decide), fun h => by omega⟩
      · rw [if_neg h6]
        exact ⟨fun h => ⟨h1, h2, h3, h4, h5, by omega, h⟩, fun h => h.2.2.2.2.2.2⟩
    · rw [if_pos h5]
      exact ⟨fun h => absurd h (by decide), fun h => absurd h.2.2.2.2.1 h5⟩
  · rw [if_pos h0]
    exact ⟨fun h => absurd h h0, fun h => absurd (places_zero.2 ⟨h.1, h.2.1, h.2.2.1, h.2.2.2.1⟩) h0⟩
end Go.Proofs.YteeindicpbcjaaaGreatDoor
namespace Go.Proofs.YteeindicpbcjaaaGreatDoor
open Go.RowKit
set_option linter.unusedVariables false
set_option linter.unusedSimpArgs false

/-- The marks are turned from p on, at j tokens. -/
def turned (k m : Int) (l : List Tok) (p j : Nat) : List Tok := l.take p ++ ((l.take (p + j)).drop p).map (turnT k m) ++ l.drop (p + j)
theorem turned_zero (k m : Int) (l : List Tok) (p : Nat) : turned k m l p 0 = l := by
  unfold turned
  rw [Nat.add_zero, List.drop_eq_nil_of_le (by rw [List.length_take]; omega)]
  simp
theorem turned_len {k m : Int} {l : List Tok} {p j : Nat} (h : p + j ≤ l.length) : (turned k m l p j).length = l.length := by
  unfold turned
  simp only [List.length_append, List.length_take, List.length_map, List.length_drop]
  omega
theorem turned_at {k m : Int} {l : List Tok} {p j : Nat} {y : Tok} (h : l[p + j]? = some y) : (turned k m l p j)[p + j]? = some y := by
  have hl := (List.getElem?_eq_some_iff.1 h).1
  have h1 : (l.take p ++ ((l.take (p + j)).drop p).map (turnT k m)).length = p + j := by
    simp only [List.length_append, List.length_take, List.length_map, List.length_drop]
    omega
  unfold turned
  rw [List.getElem?_append_right (by omega), h1, Nat.sub_self, List.getElem?_drop, Nat.add_zero]
  exact h
theorem turned_succ {k m : Int} {l : List Tok} {p j : Nat} {y : Tok} (h : l[p + j]? = some y) : turned k m l p (j + 1) = (turned k m l p j).set (p + j) (turnT k m y) := by
  have hl := (List.getElem?_eq_some_iff.1 h).1
  have h1 : (l.take p ++ ((l.take (p + j)).drop p).map (turnT k m)).length = p + j := by
    simp only [List.length_append, List.length_take, List.length_map, List.length_drop]
    omega
  unfold turned
  rw [List.set_append_right _ _ (by omega), h1, Nat.sub_self, drop_cons h, List.set_cons_zero, show p + (j + 1) = (p + j) + 1 by omega, List.take_add_one, h, List.drop_append_of_le_length (by rw [List.length_take]; omega), List.map_append]
  simp
/-- A token's marks are stored. -/
theorem row_mark {w : World} {F : Nat → Prop} {b o p i : Nat} {l : List Tok} {z : Tok} (m : Int) (hr : tokR.row w F (some ⟨b, o, none⟩) l) (hz : l[i]? = some z) (hp : p = o + i * 4 + 3) :
    tokR.row (w.setCell ⟨b, p, none⟩ (.int .i64 m)) F (some ⟨b, o, none⟩) (l.set i ⟨z.k, z.t, z.n, m⟩) := by
  have cell_ne : ∀ {w : World} {b i j : Nat} {v : Value}, i ≠ j → (w.setCell ⟨b, i, none⟩ v).cell? ⟨b, j, none⟩ = w.cell? ⟨b, j, none⟩ := fun h =>
    World.cell?_setCell_other _ _ _ _ (by intro e; injection e with _ e2; exact h e2)
  obtain ⟨b1, o1, hA, hF, hb, c0, c1, c2, c3⟩ := tok_at hr hz
  cases hA
  subst hp
  have hsz : ∀ (W : World) a v, (W.setCell a v).heap.size = W.heap.size := fun W a v => by simp [World.setCell]
  have hne : l ≠ [] := by rintro rfl; cases hz
  refine .inr ⟨b, o, rfl, hF, by simp only [hsz]; exact hb, fun j x hx => ⟨x.cs, rfl, fun k u hu => ?_⟩⟩
  have hk4 : k < 4 := (List.getElem?_eq_some_iff.1 hu).1
  show World.cell? _ ⟨b, o + j * 4 + k, none⟩ = some u
  by_cases hj : i = j
  · subst hj
    rw [List.getElem?_set_self (List.getElem?_eq_some_iff.1 hz).1] at hx
    cases hx
    match k, hk4, hu with
    | 0, _, hu => cases hu; rw [cell_ne (by omega)]; exact c0
    | 1, _, hu => cases hu; rw [cell_ne (by omega)]; exact c1
    | 2, _, hu => cases hu; rw [cell_ne (by omega)]; exact c2
    | 3, _, hu => cases hu; exact World.cell?_setCell_same' _ _ _ (by rw [c3]; rfl)
  · rw [List.getElem?_set_ne hj] at hx
    rw [cell_ne (by omega)]
    obtain ⟨b2, o2, hA2, _, _, d0, d1, d2, d3⟩ := tok_at hr hx
    cases hA2
    match k, hk4, hu with
    | 0, _, hu => cases hu; exact d0
    | 1, _, hu => cases hu; exact d1
    | 2, _, hu => cases hu; exact d2
    | 3, _, hu => cases hu; exact d3
set_option maxRecDepth 100000 in
set_option maxHeartbeats 4000000 in
theorem tokens_own {w : World} {F : Nat → Prop} {A : Option Addr} {c : Nat} {ls : List (List Tok)} (hr : toksR.row w F A ls) (hlc : ls.length ≤ c) (hl : ls.length ≤ 1000) (hb : sumL ls ≤ 1048576 * 8) :
    Calls Tryz.prog 71 #[.slice A ls.length c] w fun r w' => (∃ b, r = .returned (.slice (some ⟨b, 0, none⟩) ls.flatten.length ls.flatten.length) ∧ tokR.row w' (fun k => w.heap.size ≤ k) (some ⟨b, 0, none⟩) ls.flatten ∧ ∀ i, w'.frozen? ⟨b, i, none⟩ = false) ∧ Pure w w' := by
  obtain ⟨i0, hi, hzz⟩ := Option.map_eq_some_iff.1 tok_info
  simp only [Prod.mk.injEq] at hzz
  obtain ⟨hz0, hz1, hz2⟩ := hzz
  have HR := As.mk hr
  clear hr
  go_enter Tryz.func71, Tryz.ntmps71
  go_wp2
  go_loopg [3, 12] ls.length (fun gg nv kv wr => ∃ k : Nat, k + gg = ls.length ∧ kv = .int .i64 k ∧ nv = .int .i64 (sumL (ls.take k) : Nat) ∧ As (Pure w wr))
  case atStart => exact ⟨0, by omega, rfl, by simp [sumL], ⟨Upd.refl _ _⟩⟩
  case round =>
    obtain ⟨k, hk, rfl, rfl, HP⟩ := hrel
    by_cases hlt : k < ls.length
    · obtain ⟨x, hx⟩ : ∃ x, ls[k]? = some x := ⟨_, List.getElem?_eq_getElem hlt⟩
      obtain ⟨b, o, B, cx, rfl, hF, hbl, hcx, hrow, hcell⟩ := toks_at (Rp.row_pure HR.out HP.out) hx
      have hs := sumL_take hx
      have hle := sumL_le ls (k + 1)
      obtain ⟨g1, rfl⟩ : ∃ m, gk = m + 1 := ⟨gk - 1, by omega⟩
      have hw1 : IntKind.i64.wrap ((sumL (ls.take k) : Nat) + (x.length : Int)) = (sumL (ls.take k) : Nat) + (x.length : Int) := IntWalk.i64_in _ (by omega)
      have HS := As.mk hs
      clear hx hrow hs
      go_wp2
      go_roundg g1
      case measure => omega
      case rel => exact ⟨k + 1, by omega, by go_num, by rw [HS.out]; go_num, HP⟩
    · obtain rfl : k = ls.length := by omega
      obtain ⟨wo, rfl⟩ : ∃ wo : World, wo = wr := ⟨_, rfl⟩
      have htl : ls.take ls.length = ls := List.take_length
      rw [htl]
      obtain ⟨N, hN⟩ : ∃ N, sumL ls = N := ⟨_, rfl⟩
      rw [hN]
      have hNb : N ≤ 1048576 * 8 := by omega
      have hmk := run_make (P := Tryz.prog) wo 22 40 i0 _ Tryz.underlying22 hi hz0 .i64 .i64 (N : Int) N (by omega) (Int.le_refl _) (by rw [hz2]; push_cast; omega) (by omega)
      simp only [Int.toNat_natCast] at hmk
      obtain ⟨C, hC⟩ : ∃ C, madeCells (Value.agg #[.int .i64 0, .int .i64 0, .int .i64 0, .int .i64 0]).cells (N * i0.size) = C := ⟨_, rfl⟩
      rw [hC] at hmk
      have hCs : C.size = N * 4 := by rw [← hC, size_madeCells, hz1]
      obtain ⟨cur0, rfl⟩ : ∃ cur0 : List Value, C = cur0.toArray := ⟨C.toList, by simp⟩
      have hcl : cur0.length = N * 4 := by simpa using hCs
      have H0 := As.mk (show TkRel w (wo.alloc (.cells cur0.toArray 40)) wo.heap.size ls 0 from ⟨HP.out.alloc _, HP.out.size, by simp, cur0, heap_alloc_new wo _, by rw [hcl, hN], by simp [sumL, flatT]⟩)
      have HN := As.mk hN
      have HCL := As.mk hcl
      clear htl hN hC hCs hcl hz0 hz1 hz2 hi
      go_wp2
      go_loopg [7, 25] ls.length (fun gg av kv wx => ∃ k : Nat, k + gg = ls.length ∧ kv = .int .i64 k ∧ av = .int .i64 (sumL (ls.take k) : Nat) ∧ As (TkRel w wx wo.heap.size ls k))
      case atStart => exact ⟨0, by omega, rfl, by simp [sumL], H0⟩
      case round =>
        obtain ⟨k, hk, rfl, rfl, HT⟩ := hrel
        obtain ⟨hp, hg1, hg2, cur, hblk, hcl, htk⟩ := HT.out
        by_cases hlt : k < ls.length
        · obtain ⟨x, hx⟩ : ∃ x, ls[k]? = some x := ⟨_, List.getElem?_eq_getElem hlt⟩
          obtain ⟨b, o, B, cx, rfl, hF, hbl, hcx, hrow, hcell⟩ := toks_at (Rp.row_pure HR.out hp) hx
          have hs := sumL_take hx
          have hle := sumL_le ls (k + 1)
          obtain ⟨g1, rfl⟩ : ∃ m, gk = m + 1 := ⟨gk - 1, by omega⟩
          obtain ⟨S0, hS0⟩ : ∃ S0, sumL (ls.take k) = S0 := ⟨_, rfl⟩
          have hSN : S0 + x.length ≤ N := by have := HN.out; omega
          have HSX := As.mk (show sumL (ls.take (k + 1)) = S0 + x.length by omega)
          have hfl := flatT_len x
          have HST := As.mk (fun (W1 : World) (h1 : W1.heap[wo.heap.size]? = some (.cells (splice cur (S0 * 4) (flatT x)).toArray 40 (0, 0))) (hu : Upd (fun q => q = wo.heap.size) wr W1) => TkRel.step hx hp hg1 hg2 hcl htk (by rw [hS0]; exact h1) hu)
          by_cases hroom : S0 < N
          · skip
            have hw1 : IntKind.i64.wrap ((S0 : Int) + (x.length : Int)) = (S0 : Int) + (x.length : Int) := IntWalk.i64_in _ (by omega)
            have hle0 : ¬ (N : Int) < (S0 : Int) := by omega
            rw [hS0]
            have HX0 := As.mk (And.intro hp (And.intro hg1 hg2))
            by_cases h0 : x.length = 0
            · have hx0 : x = [] := List.eq_nil_of_length_eq_zero h0
              subst hx0
              have hcopy := run_copy_zero (P := Tryz.prog) wr 22 22 3 40 (some ⟨wo.heap.size, S0 * 4, none⟩) B (N - S0) (N - S0) 0 cx 4 Tryz.underlying22 tok_size (by simp [Nat.min_def])
              have HG := As.mk (HST.out wr (by rw [hblk]; simp [splice, flatT]) (Upd.refl _ _))
              have hw2 : IntKind.i64.wrap ((S0 : Int) + 0) = (S0 : Int) := IntWalk.i64_in _ (by omega)
              simp only [List.length_nil, Nat.add_zero] at HSX
              clear hx hs hfl hp hblk hcl htk hS0 hrow hw1 hg1
              go_wp2
              go_roundg g1
              case measure => omega
              case rel => exact ⟨k + 1, by omega, by go_num, by first | (rw [HSX.out]; done) | (rw [HSX.out, Int.natCast_add]), HG⟩
            · obtain ⟨ad, rfl, hcells⟩ := row_flat hrow (by intro e; rw [e] at h0; exact h0 rfl)
              have hmin : Nat.min x.length (N - S0) = x.length := Nat.min_eq_left (by omega)
              have hcopy := run_copy_rowN (P := Tryz.prog) wr 22 22 3 40 wo.heap.size (S0 * 4) (N - S0) (N - S0) ad x.length cx 4 cur.toArray 40 (flatT x) Tryz.underlying22 tok_size hblk (by rw [hmin]; exact hfl) hcells (by rw [hfl, List.size_toArray, hcl]; have := HN.out; omega) (flatT_one x)
              rw [hmin] at hcopy
              obtain ⟨W1, hW1⟩ : ∃ W1, wr.setRow wo.heap.size (cur.toArray.toList.take (S0 * 4) ++ flatT x ++ cur.toArray.toList.drop (S0 * 4 + (flatT x).length)).toArray = W1 := ⟨_, rfl⟩
              have hb1 : W1.heap[wo.heap.size]? = some (.cells (splice cur (S0 * 4) (flatT x)).toArray 40 (0, 0)) := by
                rw [← hW1]
                have h9 := setRow_heap wr wo.heap.size cur.toArray (cur.toArray.toList.take (S0 * 4) ++ flatT x ++ cur.toArray.toList.drop (S0 * 4 + (flatT x).length)).toArray 40 (0, 0) hblk
                rw [h9]
                simp [splice]
              have hu1 : Upd (fun q => q = wo.heap.size) wr W1 := by
                rw [← hW1]
                exact ⟨rfl, rfl, rfl, by simp [World.setRow], fun q hq hn => setRow_other wr wo.heap.size q _ (fun e => hn e)⟩
              rw [hW1] at hcopy
              have HG := As.mk (HST.out W1 hb1 hu1)
              clear hx hs hfl hp hblk hcl htk hS0 hrow hcells hmin hW1 hb1 hu1 h0 hg1
              go_wp2
              go_roundg g1
              case measure => omega
              case rel => exact ⟨k + 1, by omega, by go_num, by first | (rw [HSX.out]; done) | (rw [HSX.out, Int.natCast_add]), HG⟩
          · have hS1 : S0 = N := by omega
            have hx0 : x.length = 0 := by omega
            have hxn : x = [] := List.eq_nil_of_length_eq_zero hx0
            subst hxn
            have hcopy := run_copy_zero (P := Tryz.prog) wr 22 22 3 40 (some ⟨wo.heap.size, 0, none⟩) B 0 0 0 cx 4 Tryz.underlying22 tok_size (by simp [Nat.min_def])
            have HG := As.mk (HST.out wr (by rw [hblk]; simp [splice, flatT]) (Upd.refl _ _))
            have hw2 : IntKind.i64.wrap ((N : Int) + 0) = (N : Int) := IntWalk.i64_in _ (by omega)
            simp only [List.length_nil, Nat.add_zero] at HSX
            rw [hS0]
            subst hS1
            clear hx hs hfl hp hblk hcl htk hS0 hrow hg1 hroom
            go_wp2
            go_roundg g1
            case measure => omega
            case rel => exact ⟨k + 1, by omega, by go_num, by first | (rw [HSX.out]) | (rw [HSX.out]; go_num), HG⟩
        · obtain rfl : k = ls.length := by omega
          have htl : ls.take ls.length = ls := List.take_length
          rw [htl] at htk
          have hN := HN.out
          have hfin : flatT ls.flatten = cur := by
            rw [← htk, List.take_of_length_le (by omega)]
          have hrow : tokR.row wr (fun q => w.heap.size ≤ q) (some ⟨wo.heap.size, 0, none⟩) ls.flatten := Rp.row_of_block hblk hg1 (by rw [List.toList_toArray, ← hfin]; exact reps_flatT _ _ _)
          have HRW := As.mk hrow
          have HFZ := As.mk (show ∀ i, wr.frozen? ⟨wo.heap.size, i, none⟩ = false from fun i => by simp [World.frozen?, hblk])
          have HP2 := As.mk hp
          have HLN := As.mk (show ls.flatten.length = N by rw [flatten_len, hN])
          rw [htl]
          clear htl htk hN hfin hrow hp hblk hcl hg1 hg2 HT
          go_wp2
          go_ret
          exact ⟨⟨_, by rw [HLN.out]; rfl, HRW.out, HFZ.out⟩, HP2.out⟩
theorem tokens1 {w : World} {F0 : Nat → Prop} {x0 : List Tok} (hb : x0.length ≤ 1048576) (W : World) (hu : Pure w W) {v0 : Value} {blk : Nat} {e : TypeId} {fr : Nat × Nat} (hblk : W.heap[blk]? = some (.cells #[v0] e fr)) (h0 : TokS w F0 v0 x0) :
    Calls Tryz.prog 71 #[.slice (some ⟨blk, 0, none⟩) 1 1] W fun r w' => (∃ b, r = .returned (.slice (some ⟨b, 0, none⟩) x0.length x0.length) ∧ tokR.row w' (fun k => W.heap.size ≤ k) (some ⟨b, 0, none⟩) x0 ∧ ∀ i, w'.frozen? ⟨b, i, none⟩ = false) ∧ Pure W w' := by
  have hr : toksR.row W (fun _ => True) (some ⟨blk, 0, none⟩) [x0] := toks_box (vs := [v0]) hblk trivial rfl (fun j v x hv hx => by
    match j, hv, hx with
    | 0, hv, hx => simp at hv hx; subst hv hx; exact (h0.pure hu).fp
    | j + 1, hv, hx => simp at hv)
  have h := tokens_own (c := 1) hr (Nat.le_refl _) (by simp) (by simp [sumL]; omega)
  have e : ([x0] : List (List Tok)).flatten = x0 := by simp
  rw [e] at h
  exact h
set_option maxRecDepth 100000 in
set_option maxHeartbeats 4000000 in
theorem do_mark {w : World} {F : Nat → Prop} {b o : Nat} {B : Option Addr} {c cb : Nat} {l : List Tok} {k m : Int} {p q : Nat} (hk : k = 2 ∨ k = 3) (hm : markOne m) (hR : ∀ x ∈ l, rightB x = true) (hr : tokR.row w F (some ⟨b, o, none⟩) l) (hlc : l.length ≤ c) (hb : l.length ≤ 100000) (hp : p < q) (hq : q ≤ l.length) :
    Calls Tryz.prog 43 #[.slice (some ⟨b, o, none⟩) l.length c, (markS k p q m).val B cb] w (Fresh w (turned k m l p (q - p))) := by
  have hne : l ≠ [] := by rintro rfl; simp at hq; omega
  have HT := As.mk (fun (W : World) (hu : Pure w W) (blk : Nat) (e : TypeId) (fr : Nat × Nat) hblk => tokens1 (x0 := l) (by omega) W hu (blk := blk) (e := e) (fr := fr) hblk (TokS.whole hr hlc rfl))
  have HAD := As.mk (fun (s : Int) W => Add_calls s m W)
  have HTK := As.mk (fun (s : Int) W => Take_calls s m W)
  have HLB := As.mk (fun (k : Nat) (y : Tok) (hy : l[k]? = some y) (h0 : y.k = 0) => (may_zero.2 ⟨hm, right_mark (hR y (List.mem_of_getElem? hy)) h0⟩ : mayV y.m m = 0))
  have HNE := As.mk hne
  clear hr hne hR
  unfold StepD.val markS
  rcases hk with rfl | rfl
  · go_enter Tryz.func43, Tryz.ntmps43
    go_wp2_with (go_at_call 71; with_reducible refine (HT.out _ (((Upd.alloc1 (fun _ => False) w _).alloc _)) _ _ _ (heap_alloc2_new w _ _)).mono ?_; rintro e w3 ⟨⟨b3, rfl, hrow3, hfz⟩, hu3⟩; have HFZ := As.mk hfz; obtain ⟨hb1, _, hu2⟩ := two_up hu3; have HB3 := As.mk hb1; have HU3 := As.mk hu2; have HR3 := As.mk (Rp.row_fp (G := fun q => w.heap.size < q) hrow3 (fun k hk => by simp at hk; omega)); obtain ⟨k0, k1, k2, k3, k4, k5, k6, k7⟩ := cells8 hb1; clear hb1 hu2 hu3 hrow3 hfz)
    clear k0 k1 k2 k3 k4 k5 k6 k7
    go_loopg [7] (q - p) (fun g i wr => ∃ n : Nat, p ≤ n ∧ n + g = q ∧ i = .int .i64 (n : Nat) ∧ As (tokR.row wr (fun k => w.heap.size < k) (some ⟨b3, 0, none⟩) (turned 2 m l p (n - p))) ∧ As (wr.heap[w.heap.size]? = w3.heap[w.heap.size]? ∧ Pure w wr) ∧ As (∀ i, wr.frozen? ⟨b3, i, none⟩ = false))
    case atStart => exact ⟨p, by omega, by omega, rfl, ⟨by rw [Nat.sub_self, turned_zero]; exact HR3.out⟩, ⟨rfl, HU3.out⟩, HFZ⟩
    case round =>
      obtain ⟨n, hpn, hnq, rfl, HRW, HPW, HFW⟩ := hrel
      have hcfw : ∀ i, wr.frozen? ⟨b3, i, none⟩ = false := HFW.out
      have HBW := As.mk (HPW.out.1.trans HB3.out)
      obtain ⟨k0, k1, k2, k3, k4, k5, k6, k7⟩ := cells8 HBW.out
      by_cases hlt : n < q
      · obtain ⟨g1, rfl⟩ : ∃ m, gk = m + 1 := ⟨gk - 1, by omega⟩
        obtain ⟨y, hy⟩ : ∃ y, l[n]? = some y := ⟨_, List.getElem?_eq_getElem (by omega)⟩
        have hy' : l[p + (n - p)]? = some y := by rw [show p + (n - p) = n by omega]; exact hy
        have hyt := turned_at (k := 2) (m := m) hy'
        have hys := turned_succ (k := 2) (m := m) hy'
        rw [show p + (n - p) = n by omega] at hyt hys
        rw [show n - p + 1 = n + 1 - p by omega] at hys
        have hnl : n < l.length := (List.getElem?_eq_some_iff.1 hy).1
        obtain ⟨b9, o9, hA9, hF9, hb9, c0, c1, c2, c3⟩ := tok_at HRW.out hyt
        cases hA9
        simp only [Nat.zero_add] at c0 c1 c2 c3
        have hbw9 : b3 < wr.heap.size := hb9
        have HYT := As.mk hyt
        have HYS := As.mk hys
        have HF9 := As.mk hF9
        have HPN := As.mk (And.intro hpn hnq)
        by_cases h0 : y.k = 0
        · have HMY := As.mk (HAD.out y.m)
          rw [HLB.out n y hy h0, if_pos rfl] at HMY
          have hyt : turnT 2 m y = ⟨y.k, y.t, y.n, turnM 2 m y.m⟩ := by unfold turnT; rw [if_pos h0]
          rw [hyt] at HYS
          rw [h0] at c0
          generalize turnM 2 m y.m = tm at *
          clear hy hy' hys hyt hF9 hpn hnq h0
          go_wp2
          have HK8 := As.mk (show (fun v => v.cell? ⟨b3, n * 4 + 3, none⟩ = some (.int .i64 y.m) ∧ v.cell? ⟨w.heap.size, 7, none⟩ = some (.int .i64 m)) wr.drew from ⟨c3, k7⟩)
          refine wp_region_V (P := Tryz.prog) (fun v => v.cell? ⟨b3, n * 4 + 3, none⟩ = some (.int .i64 y.m) ∧ v.cell? ⟨w.heap.size, 7, none⟩ = some (.int .i64 m)) 16 (by kernel_rfl) ?_ (fun hHeld => ?_)
          · with_reducible exact HK8.out
          refine yV 0 ?_
          refine yV 1 ?_
          refine yV 2 ?_
          refine yV 3 ?_
          (try simp only [Act.put, List.setIfInBounds_toArray, List.set_cons_zero, List.set_cons_succ])
          refine yV 4 ?_
          refine yV 5 ?_
          refine yV 6 ?_
          refine zV 7 ?_
          (try simp only [Act.put, List.setIfInBounds_toArray, List.set_cons_zero, List.set_cons_succ])
          refine yV 8 ?_
          refine zV 9 ?_
          refine wpAnyV_one (i := 10) (by kernel_rfl) (by exact opAt rfl) (fun K hK => ?_)
          go_simp
          (go_at_call 46; refine (HMY.out _).mono ?_; rintro e w' ⟨rfl, rfl⟩)
          refine hK.out _ _ (fun _ _ => by with_reducible exact HK8.out) (fun hHeld2 => ?_)
          replace hHeld := hHeld2 (by decide) hHeld
          clear hHeld2
          clear hK K
          (try simp only [Act.put, List.setIfInBounds_toArray, List.set_cons_zero, List.set_cons_succ])
          refine yV 11 ?_
          (try simp only [Act.put, List.setIfInBounds_toArray, List.set_cons_zero, List.set_cons_succ])
          refine yV 12 ?_
          refine yV 13 ?_
          refine yV 14 ?_
          refine yV 15 ?_
          (try simp only [Act.put, List.setIfInBounds_toArray, List.set_cons_zero, List.set_cons_succ])
          refine wpAnyV_one (i := 16) (by kernel_rfl) (by exact opAt rfl) (fun K hK => ?_)
          go_simp
          refine hK.out _ _ (fun h => absurd rfl h) (fun hHeld => ?_)
          clear hK K
          (try simp only [Act.put, List.setIfInBounds_toArray, List.set_cons_zero, List.set_cons_succ])
          refine wpAnyV_done (by kernel_rfl) ?_ _
          go_wp2
          go_roundg g1
          case measure => omega
          case rel => exact ⟨n + 1, by have := HPN.out; omega, by have := HPN.out; omega, by go_num, ⟨by rw [HYS.out]; exact Rp.row_pure (row_mark tm HRW.out HYT.out (by simp)) (Upd.refl _ _).drew⟩, ⟨((Upd.setCell (S := fun k => k = b3) (Upd.refl _ wr) (p := ⟨b3, n * 4 + 3, none⟩) (fun _ => rfl) _).block w.heap.size (lt_of_block HBW.out) (by have h9 := HF9.out; omega)).trans HPW.out.1, (HPW.out.2.setCell (p := ⟨b3, n * 4 + 3, none⟩) (fun h => absurd h (by show ¬ b3 < w.heap.size; have h9 := HF9.out; omega)) _).drew⟩, ⟨fun i => (World.frozen?_setCell wr ⟨b3, n * 4 + 3, none⟩ ⟨b3, i, none⟩ _).trans (HFW.out i)⟩⟩
        · have e0 : (y.k == 0) = false := by simpa using h0
          have hyt2 : turnT 2 m y = y := by unfold turnT; rw [if_neg h0]
          have hset : (turned 2 m l p (n - p)).set n y = turned 2 m l p (n - p) := by
            obtain ⟨hl9, he9⟩ := List.getElem?_eq_some_iff.1 hyt
            rw [← he9, List.set_getElem_self]
          rw [hyt2, hset] at HYS
          clear hy hy' hys hyt hyt2 hset hF9 hpn hnq h0
          go_wp2
          go_roundg g1
          case measure => omega
          case rel => exact ⟨n + 1, by have := HPN.out; omega, by have := HPN.out; omega, by go_num, ⟨by rw [HYS.out]; exact HRW.out⟩, HPW, HFW⟩
      · obtain rfl : n = q := by omega
        have hle := turned_len (k := 2) (m := m) (l := l) (p := p) (j := n - p) (by omega)
        have HLE := As.mk hle
        clear hle hpn
        go_wp2
        go_ret
        exact ⟨⟨_, by rw [HLE.out]; rfl, Rp.row_fp HRW.out (fun k hk => Nat.le_of_lt hk)⟩, HPW.out.2⟩
  · go_enter Tryz.func43, Tryz.ntmps43
    go_wp2_with (go_at_call 71; with_reducible refine (HT.out _ (((Upd.alloc1 (fun _ => False) w _).alloc _)) _ _ _ (heap_alloc2_new w _ _)).mono ?_; rintro e w3 ⟨⟨b3, rfl, hrow3, hfz⟩, hu3⟩; have HFZ := As.mk hfz; obtain ⟨hb1, _, hu2⟩ := two_up hu3; have HB3 := As.mk hb1; have HU3 := As.mk hu2; have HR3 := As.mk (Rp.row_fp (G := fun q => w.heap.size < q) hrow3 (fun k hk => by simp at hk; omega)); obtain ⟨k0, k1, k2, k3, k4, k5, k6, k7⟩ := cells8 hb1; clear hb1 hu2 hu3 hrow3 hfz)
    clear k0 k1 k2 k3 k4 k5 k6 k7
    go_loopg [7] (q - p) (fun g i wr => ∃ n : Nat, p ≤ n ∧ n + g = q ∧ i = .int .i64 (n : Nat) ∧ As (tokR.row wr (fun k => w.heap.size < k) (some ⟨b3, 0, none⟩) (turned 3 m l p (n - p))) ∧ As (wr.heap[w.heap.size]? = w3.heap[w.heap.size]? ∧ Pure w wr) ∧ As (∀ i, wr.frozen? ⟨b3, i, none⟩ = false))
    case atStart => exact ⟨p, by omega, by omega, rfl, ⟨by rw [Nat.sub_self, turned_zero]; exact HR3.out⟩, ⟨rfl, HU3.out⟩, HFZ⟩
    case round =>
      obtain ⟨n, hpn, hnq, rfl, HRW, HPW, HFW⟩ := hrel
      have hcfw : ∀ i, wr.frozen? ⟨b3, i, none⟩ = false := HFW.out
      have HBW := As.mk (HPW.out.1.trans HB3.out)
      obtain ⟨k0, k1, k2, k3, k4, k5, k6, k7⟩ := cells8 HBW.out
      by_cases hlt : n < q
      · obtain ⟨g1, rfl⟩ : ∃ m, gk = m + 1 := ⟨gk - 1, by omega⟩
        obtain ⟨y, hy⟩ : ∃ y, l[n]? = some y := ⟨_, List.getElem?_eq_getElem (by omega)⟩
        have hy' : l[p + (n - p)]? = some y := by rw [show p + (n - p) = n by omega]; exact hy
        have hyt := turned_at (k := 3) (m := m) hy'
        have hys := turned_succ (k := 3) (m := m) hy'
        rw [show p + (n - p) = n by omega] at hyt hys
        rw [show n - p + 1 = n + 1 - p by omega] at hys
        have hnl : n < l.length := (List.getElem?_eq_some_iff.1 hy).1
        obtain ⟨b9, o9, hA9, hF9, hb9, c0, c1, c2, c3⟩ := tok_at HRW.out hyt
        cases hA9
        simp only [Nat.zero_add] at c0 c1 c2 c3
        have hbw9 : b3 < wr.heap.size := hb9
        have HYT := As.mk hyt
        have HYS := As.mk hys
        have HF9 := As.mk hF9
        have HPN := As.mk (And.intro hpn hnq)
        by_cases h0 : y.k = 0
        · have HMY := As.mk (HTK.out y.m)
          rw [HLB.out n y hy h0, if_pos rfl] at HMY
          have hyt : turnT 3 m y = ⟨y.k, y.t, y.n, turnM 3 m y.m⟩ := by unfold turnT; rw [if_pos h0]
          rw [hyt] at HYS
          rw [h0] at c0
          generalize turnM 3 m y.m = tm at *
          clear hy hy' hys hyt hF9 hpn hnq h0
          go_wp2
          have HK8 := As.mk (show (fun v => v.cell? ⟨b3, n * 4 + 3, none⟩ = some (.int .i64 y.m) ∧ v.cell? ⟨w.heap.size, 7, none⟩ = some (.int .i64 m)) wr.drew from ⟨c3, k7⟩)
          refine wp_region_V (P := Tryz.prog) (fun v => v.cell? ⟨b3, n * 4 + 3, none⟩ = some (.int .i64 y.m) ∧ v.cell? ⟨w.heap.size, 7, none⟩ = some (.int .i64 m)) 16 (by kernel_rfl) ?_ (fun hHeld => ?_)
          · with_reducible exact HK8.out
          refine yV 0 ?_
          refine yV 1 ?_
          refine yV 2 ?_
          (try simp only [Act.put, List.setIfInBounds_toArray, List.set_cons_zero, List.set_cons_succ])
          refine yV 3 ?_
          refine yV 4 ?_
          refine yV 5 ?_
          refine yV 6 ?_
          (try simp only [Act.put, List.setIfInBounds_toArray, List.set_cons_zero, List.set_cons_succ])
          refine zV 7 ?_
          refine yV 8 ?_
          refine zV 9 ?_
          refine wpAnyV_one (i := 10) (by kernel_rfl) (by exact opAt rfl) (fun K hK => ?_)
          go_simp
          (go_at_call 72; refine (HMY.out _).mono ?_; rintro e w' ⟨rfl, rfl⟩)
          refine hK.out _ _ (fun _ _ => by with_reducible exact HK8.out) (fun hHeld2 => ?_)
          replace hHeld := hHeld2 (by decide) hHeld
          clear hHeld2
          clear hK K
          (try simp only [Act.put, List.setIfInBounds_toArray, List.set_cons_zero, List.set_cons_succ])
          refine yV 11 ?_
          refine yV 12 ?_
          refine yV 13 ?_
          refine yV 14 ?_
          (try simp only [Act.put, List.setIfInBounds_toArray, List.set_cons_zero, List.set_cons_succ])
          refine yV 15 ?_
          refine wpAnyV_one (i := 16) (by kernel_rfl) (by exact opAt rfl) (fun K hK => ?_)
          go_simp
          refine hK.out _ _ (fun h => absurd rfl h) (fun hHeld => ?_)
          clear hK K
          (try simp only [Act.put, List.setIfInBounds_toArray, List.set_cons_zero, List.set_cons_succ])
          refine wpAnyV_done (by kernel_rfl) ?_ _
          go_wp2
          go_roundg g1
          case measure => omega
          case rel => exact ⟨n + 1, by have := HPN.out; omega, by have := HPN.out; omega, by go_num, ⟨by rw [HYS.out]; exact Rp.row_pure (row_mark tm HRW.out HYT.out (by simp)) (Upd.refl _ _).drew⟩, ⟨((Upd.setCell (S := fun k => k = b3) (Upd.refl _ wr) (p := ⟨b3, n * 4 + 3, none⟩) (fun _ => rfl) _).block w.heap.size (lt_of_block HBW.out) (by have h9 := HF9.out; omega)).trans HPW.out.1, (HPW.out.2.setCell (p := ⟨b3, n * 4 + 3, none⟩) (fun h => absurd h (by show ¬ b3 < w.heap.size; have h9 := HF9.out; omega)) _).drew⟩, ⟨fun i => (World.frozen?_setCell wr ⟨b3, n * 4 + 3, none⟩ ⟨b3, i, none⟩ _).trans (HFW.out i)⟩⟩
        · have e0 : (y.k == 0) = false := by simpa using h0
          have hyt2 : turnT 3 m y = y := by unfold turnT; rw [if_neg h0]
          have hset : (turned 3 m l p (n - p)).set n y = turned 3 m l p (n - p) := by
            obtain ⟨hl9, he9⟩ := List.getElem?_eq_some_iff.1 hyt
            rw [← he9, List.set_getElem_self]
          rw [hyt2, hset] at HYS
          clear hy hy' hys hyt hyt2 hset hF9 hpn hnq h0
          go_wp2
          go_roundg g1
          case measure => omega
          case rel => exact ⟨n + 1, by have := HPN.out; omega, by have := HPN.out; omega, by go_num, ⟨by rw [HYS.out]; exact HRW.out⟩, HPW, HFW⟩
      · obtain rfl : n = q := by omega
        have hle := turned_len (k := 3) (m := m) (l := l) (p := p) (j := n - p) (by omega)
        have HLE := As.mk hle
        clear hle hpn
        go_wp2
        go_ret
        exact ⟨⟨_, by rw [HLE.out]; rfl, Rp.row_fp HRW.out (fun k hk => Nat.le_of_lt hk)⟩, HPW.out.2⟩
theorem flat_rights {l : List Tok} (h : (flatCheck l).2 = 0) : ∀ x ∈ l, rightB x = true := by
  unfold flatCheck at h
  split at h
  · simp at h
  · exact fc_rights l 0 0 ((fcGo_run l 0 0).1 h)
theorem doc_mark {w : World} {F : Nat → Prop} {A B : Option Addr} {c cb : Nat} {l : List Tok} {k f t m : Int} (hk : k = 2 ∨ k = 3) (hne : l ≠ []) (hr : tokR.row w F A l) (hlc : l.length ≤ c)
    (h0 : (flatCheck l).2 = 0) (h1 : stepCheck (markS k f t m) = 0) (h2 : t ≤ l.length) : DoC w A c l B cb (markS k f t m) := by
  obtain ⟨bA, oA, rfl⟩ := row_some hr hne
  obtain ⟨_, hok⟩ := step_check_zero.1 h1
  obtain ⟨o1, o2, o3, o4⟩ := (markS_ok hk).1 hok
  have hl := flat_len h0
  have hR := flat_rights h0
  intro W hW
  obtain ⟨f, rfl⟩ := Int.eq_ofNat_of_zero_le o1
  obtain ⟨t, rfl⟩ := Int.eq_ofNat_of_zero_le (Int.le_trans o1 (Int.le_of_lt o2))
  have := do_mark (B := B) (cb := cb) hk o4 hR (Rp.row_pure hr hW) hlc (by omega) (p := f) (q := t) (by omega) (by omega)
  have he : stepDo l (markS k f t m) = turned k m l f (t - f) := by
    unfold stepDo markS turned
    simp only [Int.toNat_natCast]
    rw [if_neg (by omega), if_neg (by omega), show f + (t - f) = t by omega]
  rw [he]
  exact this
end Go.Proofs.YteeindicpbcjaaaGreatDoor
namespace Go.Proofs.YteeindicpbcjaaaGreatDoor
open Go.RowKit
set_option linter.unusedVariables false
set_option linter.unusedSimpArgs false

set_option maxRecDepth 100000 in
set_option maxHeartbeats 4000000 in
theorem Toggle_no {w : World} {cb : Nat} {A : Option Addr} {c n : Nat} {f t m e pe : Int} {s' : StepD}
    (hp : ∀ W, Pure w W → Calls Tryz.prog 38 #[deskV cb A n c, .int .i64 f, .int .i64 t] W (fun r w' => r = .returned (.int .i64 pe) ∧ Pure W w'))
    (hn : (pe ≠ 0 ∧ e = pe) ∨ (pe = 0 ∧ ¬ markOne m ∧ e = 1)) (hs : s' = repl 0 0 []) :
    Calls Tryz.prog 21 #[.pointer (some ⟨cb, 0, none⟩), .slice A n c, .int .i64 f, .int .i64 t, .int .i64 m] w (Told s' none 0 e w) := by
  subst hs
  have HP := As.mk hp
  clear hp
  unfold Told StepD.val at *
  rcases hn with ⟨p0, rfl⟩ | ⟨rfl, hm, rfl⟩
  · have f0 : (e != 0) = true := by simpa using p0
    clear p0
    go_enter Tryz.func21, Tryz.ntmps21
    go_wp2_with (first | (go_at_call 39; refine (refuse_calls _).mono ?_; rintro r w2 ⟨rfl, hu⟩; have HB2 := As.mk ((hu.block w.heap.size (lt_of_block HB1.out) (fun h => h)).trans HB1.out); have HU2 := As.mk (HU1.out.trans hu (fun _ _ h => h)); clear hu; apply As.out) | (go_at_call 38; refine (HP.out _ ((Upd.alloc1 (fun _ => False) _ _).alloc _)).mono ?_; rintro r w1 ⟨rfl, hu⟩; obtain ⟨hb1, hb2, hu2⟩ := two_up hu; obtain ⟨q0, q1⟩ := cells2 hb2; have HB1 := As.mk hb1; have HQ1 := As.mk hb2; have HU1 := As.mk hu2; clear hu hb1 hb2 hu2))
    refine ⟨?_⟩
    have hbl : w.heap.size < w2.heap.size := (Array.getElem?_eq_some_iff.1 HB2.out).1
    have hcf : ∀ i, w2.frozen? ⟨w.heap.size, i, none⟩ = false := fun i => by simp [World.frozen?, HB2.out]
    obtain ⟨k0, k1, k2, k3, k4, k5, k6, k7⟩ := cells8 HB2.out
    go_wp2
    exact bodyPost_ret (step_end (rb := w.heap.size) rfl _ rfl (set8 (rb := w.heap.size) HB2.out _ _ _ _ _ _ _ _)) rfl ⟨rfl, set8_pure HU2.out (Nat.le_refl _) _ _ _ _ _ _ _ _⟩
  · have hmv : mayV 0 m = 1 := by unfold mayV; rw [if_pos hm]
    have HAD := As.mk (fun W => Add_calls 0 m W)
    rw [hmv, if_neg (by decide)] at HAD
    clear hm hmv
    go_enter Tryz.func21, Tryz.ntmps21
    go_wp2_with (first | (go_at_call 39; refine (refuse_calls _).mono ?_; rintro r w2 ⟨rfl, hu⟩; have HB2 := As.mk ((hu.block w.heap.size (lt_of_block HB1.out) (fun h => h)).trans HB1.out); have HU2 := As.mk (HU1.out.trans hu (fun _ _ h => h)); clear hu; apply As.out) | (go_at_call 46; refine (HAD.out _).mono ?_; rintro r wx ⟨rfl, hwx⟩; have hwy := hwx.symm; clear hwx; subst hwy) | (go_at_call 38; refine (HP.out _ ((Upd.alloc1 (fun _ => False) _ _).alloc _)).mono ?_; rintro r w1 ⟨rfl, hu⟩; obtain ⟨hb1, hb2, hu2⟩ := two_up hu; obtain ⟨q0, q1⟩ := cells2 hb2; have HB1 := As.mk hb1; have HQ1 := As.mk hb2; have HU1 := As.mk hu2; clear hu hb1 hb2 hu2))
    refine ⟨?_⟩
    have hbl : w.heap.size < w2.heap.size := (Array.getElem?_eq_some_iff.1 HB2.out).1
    have hcf : ∀ i, w2.frozen? ⟨w.heap.size, i, none⟩ = false := fun i => by simp [World.frozen?, HB2.out]
    obtain ⟨k0, k1, k2, k3, k4, k5, k6, k7⟩ := cells8 HB2.out
    go_wp2
    exact bodyPost_ret (step_end (rb := w.heap.size) rfl _ rfl (set8 (rb := w.heap.size) HB2.out _ _ _ _ _ _ _ _)) rfl ⟨rfl, set8_pure HU2.out (Nat.le_refl _) _ _ _ _ _ _ _ _⟩
set_option maxRecDepth 100000 in
set_option maxHeartbeats 4000000 in
theorem Toggle_none {w : World} {F : Nat → Prop} {cb b o : Nat} {A : Option Addr} {c : Nat} {l : List Tok} {m e : Int} {s' : StepD} {f : Nat} (hm : markOne m) (hfl : f ≤ l.length) (hlc : l.length ≤ c) (hb : l.length ≤ 1048576 * 4)
    (hp : ∀ W, Pure w W → Calls Tryz.prog 38 #[deskV cb (some ⟨b, o, none⟩) l.length c, .int .i64 (f : Nat), .int .i64 (f : Nat)] W (fun r w' => r = .returned (.int .i64 0) ∧ Pure W w'))
    (hs : s' = repl 0 0 []) (he : e = 6) :
    Calls Tryz.prog 21 #[.pointer (some ⟨cb, 0, none⟩), .slice (some ⟨b, o, none⟩) l.length c, .int .i64 (f : Nat), .int .i64 (f : Nat), .int .i64 m] w (Told s' none 0 e w) := by
  subst hs he
  have HP := As.mk hp
  have HAD := As.mk (fun W => Add_calls 0 m W)
  rw [may_zero.2 ⟨hm, by decide, by decide⟩, if_pos rfl] at HAD
  generalize turnM 2 m 0 = ad at *
  have i1 : (0 : Int) ≤ ((f : Nat) : Int) := by omega
  have i4 : ((f : Nat) : Int) ≤ ((c : Nat) : Int) := by omega
  have i5 : ((l.length : Nat) : Int) ≤ ((c : Nat) : Int) := by omega
  clear hp hm
  unfold Told StepD.val at *
  by_cases hcf : c = f
  · subst hcf
    go_enter Tryz.func21, Tryz.ntmps21
    go_wp2_with (first | (go_at_call 46; refine (HAD.out _).mono ?_; rintro r wx ⟨rfl, hwx⟩; have hwy := hwx.symm; clear hwx; subst hwy) | (go_at_call 38; refine (HP.out _ ((Upd.alloc1 (fun _ => False) _ _).alloc _)).mono ?_; rintro r w1 ⟨rfl, hu⟩; obtain ⟨hb1, hb2, hu2⟩ := two_up hu; obtain ⟨q0, q1⟩ := cells2 hb2; have HB1 := As.mk hb1; have HQ1 := As.mk hb2; have HU1 := As.mk hu2; clear hu hb1 hb2 hu2))
    refine wp_loop_rounds 1 ?_
    rw [rounds_succ]
    go_wp2_with (go_at_call 39; refine (refuse_calls _).mono ?_; rintro r w2 ⟨rfl, hu⟩; have HB2 := As.mk ((hu.block w.heap.size (lt_of_block HB1.out) (fun h => h)).trans HB1.out); have HU2 := As.mk (HU1.out.trans hu (fun _ _ h => h)); clear hu; apply As.out)
    refine ⟨?_⟩
    have hbl : w.heap.size < w2.heap.size := (Array.getElem?_eq_some_iff.1 HB2.out).1
    have hcf : ∀ i, w2.frozen? ⟨w.heap.size, i, none⟩ = false := fun i => by simp [World.frozen?, HB2.out]
    obtain ⟨k0, k1, k2, k3, k4, k5, k6, k7⟩ := cells8 HB2.out
    go_wp2
    exact bodyPost_ret (step_end (rb := w.heap.size) rfl _ rfl (set8 (rb := w.heap.size) HB2.out _ _ _ _ _ _ _ _)) rfl ⟨rfl, set8_pure HU2.out (Nat.le_refl _) _ _ _ _ _ _ _ _⟩
  · go_enter Tryz.func21, Tryz.ntmps21
    go_wp2_with (first | (go_at_call 46; refine (HAD.out _).mono ?_; rintro r wx ⟨rfl, hwx⟩; have hwy := hwx.symm; clear hwx; subst hwy) | (go_at_call 38; refine (HP.out _ ((Upd.alloc1 (fun _ => False) _ _).alloc _)).mono ?_; rintro r w1 ⟨rfl, hu⟩; obtain ⟨hb1, hb2, hu2⟩ := two_up hu; obtain ⟨q0, q1⟩ := cells2 hb2; have HB1 := As.mk hb1; have HQ1 := As.mk hb2; have HU1 := As.mk hu2; clear hu hb1 hb2 hu2))
    refine wp_loop_rounds 1 ?_
    rw [rounds_succ]
    go_wp2_with (go_at_call 39; refine (refuse_calls _).mono ?_; rintro r w2 ⟨rfl, hu⟩; have HB2 := As.mk ((hu.block w.heap.size (lt_of_block HB1.out) (fun h => h)).trans HB1.out); have HU2 := As.mk (HU1.out.trans hu (fun _ _ h => h)); clear hu; apply As.out)
    refine ⟨?_⟩
    have hbl : w.heap.size < w2.heap.size := (Array.getElem?_eq_some_iff.1 HB2.out).1
    have hcf : ∀ i, w2.frozen? ⟨w.heap.size, i, none⟩ = false := fun i => by simp [World.frozen?, HB2.out]
    obtain ⟨k0, k1, k2, k3, k4, k5, k6, k7⟩ := cells8 HB2.out
    go_wp2
    exact bodyPost_ret (step_end (rb := w.heap.size) rfl _ rfl (set8 (rb := w.heap.size) HB2.out _ _ _ _ _ _ _ _)) rfl ⟨rfl, set8_pure HU2.out (Nat.le_refl _) _ _ _ _ _ _ _ _⟩
set_option maxRecDepth 100000 in
set_option maxHeartbeats 4000000 in
theorem Toggle_some {w : World} {F : Nat → Prop} {cb b o : Nat} {A : Option Addr} {c : Nat} {l : List Tok} {m e : Int} {s' : StepD} {f t : Nat} (hm : markOne m) (hrow : tokR.row w F (some ⟨b, o, none⟩) l) (hlc : l.length ≤ c) (hb : l.length ≤ 1048576 * 4) (hft : f < t) (htl : t ≤ l.length)
    (hp : ∀ W, Pure w W → Calls Tryz.prog 38 #[deskV cb (some ⟨b, o, none⟩) l.length c, .int .i64 (f : Nat), .int .i64 (t : Nat)] W (fun r w' => r = .returned (.int .i64 0) ∧ Pure W w'))
    (hr : 0 < withN m (seg l f t) + woutN m (seg l f t) → ∀ W, Pure w W → Calls Tryz.prog 48 #[deskV cb (some ⟨b, o, none⟩) l.length c, (markS (togK l f t m) f t m).val none 0] W (Told s' none 0 e W))
    (hn : withN m (seg l f t) + woutN m (seg l f t) = 0 → s' = repl 0 0 [] ∧ e = 6) :
    Calls Tryz.prog 21 #[.pointer (some ⟨cb, 0, none⟩), .slice (some ⟨b, o, none⟩) l.length c, .int .i64 (f : Nat), .int .i64 (t : Nat), .int .i64 m] w (Told s' none 0 e w) := by
  have HP := As.mk hp
  have HAD := As.mk (fun W => Add_calls 0 m W)
  rw [may_zero.2 ⟨hm, by decide, by decide⟩, if_pos rfl] at HAD
  generalize turnM 2 m 0 = ad at *
  have i1 : (0 : Int) ≤ ((f : Nat) : Int) := by omega
  have i2 : ((f : Nat) : Int) ≤ ((t : Nat) : Int) := by omega
  have i3 : (0 : Int) ≤ ((t : Nat) : Int) := by omega
  have i4 : ((t : Nat) : Int) ≤ ((c : Nat) : Int) := by omega
  have i5 : ((l.length : Nat) : Int) ≤ ((c : Nat) : Int) := by omega
  have j2 : ¬ c = f := by omega
  have HX := As.mk (row_drop (row_take hrow t) f)
  have hseg : seg l f t = (l.take t).drop f := by unfold seg; simp only [Int.toNat_natCast]
  have HSL := As.mk (show ((l.take t).drop f).length = t - f by rw [List.length_drop, List.length_take]; omega)
  unfold togK at hr
  rw [hseg] at hr hn
  clear hp hm hrow hseg
  generalize (l.take t).drop f = sg at *
  by_cases hz : withN m sg + woutN m sg = 0
  · obtain ⟨rfl, rfl⟩ := hn hz
    have hz1 : withN m sg = 0 := by omega
    have hz2 : woutN m sg = 0 := by omega
    have HZ := As.mk (And.intro hz1 hz2)
    clear hr hn hz hz1 hz2
    unfold Told StepD.val at *
    go_enter Tryz.func21, Tryz.ntmps21
    go_wp2_with (first | (go_at_call 46; refine (HAD.out _).mono ?_; rintro r wx ⟨rfl, hwx⟩; have hwy := hwx.symm; clear hwx; subst hwy) | (go_at_call 38; refine (HP.out _ ((Upd.alloc1 (fun _ => False) _ _).alloc _)).mono ?_; rintro r w1 ⟨rfl, hu⟩; obtain ⟨hb1, hb2, hu2⟩ := two_up hu; obtain ⟨q0, q1⟩ := cells2 hb2; have HB1 := As.mk hb1; have HQ1 := As.mk hb2; have HU1 := As.mk hu2; clear hu hb1 hb2 hu2))
    go_loopg [16, 17, 49] (t - f) (fun g wv ov i wr => ∃ k : Nat, k + g = t - f ∧ i = .int .i64 k ∧ wv = .int .i64 (withN m (sg.take k) : Nat) ∧ ov = .int .i64 (woutN m (sg.take k) : Nat) ∧ As (Pure w1 wr))
    case atStart => exact ⟨0, by omega, rfl, by simp [withN], by simp [woutN], ⟨Upd.refl _ _⟩⟩
    case round =>
      obtain ⟨k, hk, rfl, rfl, rfl, HW⟩ := hrel
      by_cases hlt : k < t - f
      · obtain ⟨g1, rfl⟩ : ∃ m, gk = m + 1 := ⟨gk - 1, by omega⟩
        obtain ⟨x, hx⟩ : ∃ x, sg[k]? = some x := ⟨_, List.getElem?_eq_getElem (by have := HSL.out; omega)⟩
        have hws := withN_snoc (m := m) hx
        have hos := woutN_snoc (m := m) hx
        have hwl := withN_le m (sg.take k)
        have hol := woutN_le m (sg.take k)
        rw [List.length_take] at hwl hol
        obtain ⟨b9, o9, hA9, _, hb9, c0, c1, c2, c3⟩ := tok_at (Rp.row_pure HX.out (HU1.out.trans HW.out (fun _ _ h => h))) hx
        cases hA9
        have HWS := As.mk hws
        have HOS := As.mk hos
        have HKK := As.mk hk
        clear hws hos hx hk
        generalize withN m (sg.take k) = wn at *
        generalize woutN m (sg.take k) = on at *
        have hw1 : IntKind.i64.wrap ((wn : Int) + 1) = (wn : Int) + 1 := IntWalk.i64_in _ (by omega)
        have hw2 : IntKind.i64.wrap ((on : Int) + 1) = (on : Int) + 1 := IntWalk.i64_in _ (by omega)
        by_cases h0 : x.k = 0
        · rw [h0] at c0
          have HHX := As.mk (fun W => Has_calls x.m m W)
          cases hb : decide (hasP x.m m)
          · rw [hb] at HHX HWS HOS
            rw [h0] at HWS HOS
            have HWS2 := As.mk (show withN m (sg.take (k + 1)) = wn from HWS.out.trans (by simp))
            have HOS2 := As.mk (show woutN m (sg.take (k + 1)) = on + 1 from HOS.out.trans (by simp))
            clear hb h0 HWS HOS
            go_wp2_with (go_at_call 47; refine (HHX.out _).mono ?_; rintro e w' ⟨rfl, rfl⟩)
            go_roundg g1
            case measure => omega
            case rel => exact ⟨k + 1, by have := HKK.out; omega, by go_num, by rw [HWS2.out], by rw [HOS2.out]; go_num, ⟨HW.out.alloc _⟩⟩
          · rw [hb] at HHX HWS HOS
            rw [h0] at HWS HOS
            have HWS2 := As.mk (show withN m (sg.take (k + 1)) = wn + 1 from HWS.out.trans (by simp))
            have HOS2 := As.mk (show woutN m (sg.take (k + 1)) = on from HOS.out.trans (by simp))
            clear hb h0 HWS HOS
            go_wp2_with (go_at_call 47; refine (HHX.out _).mono ?_; rintro e w' ⟨rfl, rfl⟩)
            go_roundg g1
            case measure => omega
            case rel => exact ⟨k + 1, by have := HKK.out; omega, by go_num, by rw [HWS2.out]; go_num, by rw [HOS2.out], ⟨HW.out.alloc _⟩⟩
        · have e0 : (x.k != 0) = true := by simpa using h0
          have hd : decide (x.k = 0) = false := by simpa using h0
          rw [hd] at HWS HOS
          have HWS2 := As.mk (show withN m (sg.take (k + 1)) = wn from HWS.out.trans (by simp))
          have HOS2 := As.mk (show woutN m (sg.take (k + 1)) = on from HOS.out.trans (by simp))
          clear h0 hd HWS HOS
          go_wp2
          go_roundg g1
          case measure => omega
          case rel => exact ⟨k + 1, by have := HKK.out; omega, by go_num, by rw [HWS2.out], by rw [HOS2.out], ⟨HW.out.alloc _⟩⟩
      · obtain rfl : k = t - f := by omega
        have htk : sg.take (t - f) = sg := List.take_of_length_le (by have := HSL.out; omega)
        have hwl := withN_le m sg
        have hol := woutN_le m sg
        have hsl := HSL.out
        rw [htk]
        have HUR := As.mk (HU1.out.trans HW.out (fun _ _ h => h))
        have HBR := As.mk ((HW.out.block w.heap.size (lt_of_block HB1.out) (fun h => h)).trans HB1.out)
        obtain ⟨z0, z1⟩ := cells2 ((HW.out.block (w.heap.size + 1) (lt_of_block HQ1.out) (fun h => h)).trans HQ1.out)
        rw [HZ.out.1, HZ.out.2]
        clear hwl hol hsl
        go_wp2_with (go_at_call 39; refine (refuse_calls _).mono ?_; rintro r w2 ⟨rfl, hu⟩; have HB2 := As.mk ((hu.block w.heap.size (lt_of_block HBR.out) (fun h => h)).trans HBR.out); have HU2 := As.mk (HUR.out.trans hu (fun _ _ h => h)); clear hu; apply As.out)
        refine ⟨?_⟩
        have hbl : w.heap.size < w2.heap.size := (Array.getElem?_eq_some_iff.1 HB2.out).1
        have hcf : ∀ i, w2.frozen? ⟨w.heap.size, i, none⟩ = false := fun i => by simp [World.frozen?, HB2.out]
        obtain ⟨k0, k1, k2, k3, k4, k5, k6, k7⟩ := cells8 HB2.out
        go_wp2
        exact bodyPost_ret (step_end (rb := w.heap.size) rfl _ rfl (set8 (rb := w.heap.size) HB2.out _ _ _ _ _ _ _ _)) rfl ⟨rfl, set8_pure HU2.out (Nat.le_refl _) _ _ _ _ _ _ _ _⟩
  · by_cases ho : woutN m sg = 0
    · rw [if_pos ho] at hr
      have HR := As.mk (hr (by omega))
      have HO := As.mk ho
      clear hr hn ho
      unfold Told StepD.val markS at *
      go_enter Tryz.func21, Tryz.ntmps21
      go_wp2_with (first | (go_at_call 46; refine (HAD.out _).mono ?_; rintro r wx ⟨rfl, hwx⟩; have hwy := hwx.symm; clear hwx; subst hwy) | (go_at_call 38; refine (HP.out _ ((Upd.alloc1 (fun _ => False) _ _).alloc _)).mono ?_; rintro r w1 ⟨rfl, hu⟩; obtain ⟨hb1, hb2, hu2⟩ := two_up hu; obtain ⟨q0, q1⟩ := cells2 hb2; have HB1 := As.mk hb1; have HQ1 := As.mk hb2; have HU1 := As.mk hu2; clear hu hb1 hb2 hu2))
      go_loopg [16, 17, 49] (t - f) (fun g wv ov i wr => ∃ k : Nat, k + g = t - f ∧ i = .int .i64 k ∧ wv = .int .i64 (withN m (sg.take k) : Nat) ∧ ov = .int .i64 (woutN m (sg.take k) : Nat) ∧ As (Pure w1 wr))
      case atStart => exact ⟨0, by omega, rfl, by simp [withN], by simp [woutN], ⟨Upd.refl _ _⟩⟩
      case round =>
        obtain ⟨k, hk, rfl, rfl, rfl, HW⟩ := hrel
        by_cases hlt : k < t - f
        · obtain ⟨g1, rfl⟩ : ∃ m, gk = m + 1 := ⟨gk - 1, by omega⟩
          obtain ⟨x, hx⟩ : ∃ x, sg[k]? = some x := ⟨_, List.getElem?_eq_getElem (by have := HSL.out; omega)⟩
          have hws := withN_snoc (m := m) hx
          have hos := woutN_snoc (m := m) hx
          have hwl := withN_le m (sg.take k)
          have hol := woutN_le m (sg.take k)
          rw [List.length_take] at hwl hol
          obtain ⟨b9, o9, hA9, _, hb9, c0, c1, c2, c3⟩ := tok_at (Rp.row_pure HX.out (HU1.out.trans HW.out (fun _ _ h => h))) hx
          cases hA9
          have HWS := As.mk hws
          have HOS := As.mk hos
          have HKK := As.mk hk
          clear hws hos hx hk
          generalize withN m (sg.take k) = wn at *
          generalize woutN m (sg.take k) = on at *
          have hw1 : IntKind.i64.wrap ((wn : Int) + 1) = (wn : Int) + 1 := IntWalk.i64_in _ (by omega)
          have hw2 : IntKind.i64.wrap ((on : Int) + 1) = (on : Int) + 1 := IntWalk.i64_in _ (by omega)
          by_cases h0 : x.k = 0
          · rw [h0] at c0
            have HHX := As.mk (fun W => Has_calls x.m m W)
            cases hb : decide (hasP x.m m)
            · rw [hb] at HHX HWS HOS
              rw [h0] at HWS HOS
              have HWS2 := As.mk (show withN m (sg.take (k + 1)) = wn from HWS.out.trans (by simp))
              have HOS2 := As.mk (show woutN m (sg.take (k + 1)) = on + 1 from HOS.out.trans (by simp))
              clear hb h0 HWS HOS
              go_wp2_with (go_at_call 47; refine (HHX.out _).mono ?_; rintro e w' ⟨rfl, rfl⟩)
              go_roundg g1
              case measure => omega
              case rel => exact ⟨k + 1, by have := HKK.out; omega, by go_num, by rw [HWS2.out], by rw [HOS2.out]; go_num, ⟨HW.out.alloc _⟩⟩
            · rw [hb] at HHX HWS HOS
              rw [h0] at HWS HOS
              have HWS2 := As.mk (show withN m (sg.take (k + 1)) = wn + 1 from HWS.out.trans (by simp))
              have HOS2 := As.mk (show woutN m (sg.take (k + 1)) = on from HOS.out.trans (by simp))
              clear hb h0 HWS HOS
              go_wp2_with (go_at_call 47; refine (HHX.out _).mono ?_; rintro e w' ⟨rfl, rfl⟩)
              go_roundg g1
              case measure => omega
              case rel => exact ⟨k + 1, by have := HKK.out; omega, by go_num, by rw [HWS2.out]; go_num, by rw [HOS2.out], ⟨HW.out.alloc _⟩⟩
          · have e0 : (x.k != 0) = true := by simpa using h0
            have hd : decide (x.k = 0) = false := by simpa using h0
            rw [hd] at HWS HOS
            have HWS2 := As.mk (show withN m (sg.take (k + 1)) = wn from HWS.out.trans (by simp))
            have HOS2 := As.mk (show woutN m (sg.take (k + 1)) = on from HOS.out.trans (by simp))
            clear h0 hd HWS HOS
            go_wp2
            go_roundg g1
            case measure => omega
            case rel => exact ⟨k + 1, by have := HKK.out; omega, by go_num, by rw [HWS2.out], by rw [HOS2.out], ⟨HW.out.alloc _⟩⟩
        · obtain rfl : k = t - f := by omega
          have htk : sg.take (t - f) = sg := List.take_of_length_le (by have := HSL.out; omega)
          have hwl := withN_le m sg
          have hol := woutN_le m sg
          have hsl := HSL.out
          rw [htk]
          have HUR := As.mk (HU1.out.trans HW.out (fun _ _ h => h))
          have HBR := As.mk ((HW.out.block w.heap.size (lt_of_block HB1.out) (fun h => h)).trans HB1.out)
          obtain ⟨z0, z1⟩ := cells2 ((HW.out.block (w.heap.size + 1) (lt_of_block HQ1.out) (fun h => h)).trans HQ1.out)
          rw [HO.out] at hol ⊢
          have hz9 : 0 < withN m sg := by have := HO.out; omega
          generalize withN m sg = wn at *
          have hw1 : IntKind.i64.wrap ((wn : Int) + ((0 : Nat) : Int)) = (wn : Int) := by rw [IntWalk.i64_in _ (by omega)]; omega
          have hw2 : IntKind.i64.wrap (wn : Int) = (wn : Int) := IntWalk.i64_in _ (by omega)
          have hw3 : ((wn : Int) == 0) = false := by simp; omega
          have hw4 : (wn == 0) = false := by simp; omega
          clear hwl hol hsl
          go_wp2_with (go_at_call 48; refine (HR.out _ HUR.out).mono ?_; rintro r w2 ⟨rfl, hu⟩; have HB2 := As.mk ((hu.block w.heap.size (lt_of_block HBR.out) (fun h => h)).trans HBR.out); have HU2 := As.mk (HUR.out.trans hu (fun _ _ h => h)); clear hu; apply As.out)
          refine ⟨?_⟩
          have hbl : w.heap.size < w2.heap.size := (Array.getElem?_eq_some_iff.1 HB2.out).1
          have hcf : ∀ i, w2.frozen? ⟨w.heap.size, i, none⟩ = false := fun i => by simp [World.frozen?, HB2.out]
          obtain ⟨k0, k1, k2, k3, k4, k5, k6, k7⟩ := cells8 HB2.out
          go_wp2
          exact bodyPost_ret (step_end (rb := w.heap.size) rfl _ rfl (set8 (rb := w.heap.size) HB2.out _ _ _ _ _ _ _ _)) rfl ⟨rfl, set8_pure HU2.out (Nat.le_refl _) _ _ _ _ _ _ _ _⟩
    · rw [if_neg ho] at hr
      have HR := As.mk (hr (by omega))
      have HO := As.mk ho
      clear hr hn ho
      unfold Told StepD.val markS at *
      go_enter Tryz.func21, Tryz.ntmps21
      go_wp2_with (first | (go_at_call 46; refine (HAD.out _).mono ?_; rintro r wx ⟨rfl, hwx⟩; have hwy := hwx.symm; clear hwx; subst hwy) | (go_at_call 38; refine (HP.out _ ((Upd.alloc1 (fun _ => False) _ _).alloc _)).mono ?_; rintro r w1 ⟨rfl, hu⟩; obtain ⟨hb1, hb2, hu2⟩ := two_up hu; obtain ⟨q0, q1⟩ := cells2 hb2; have HB1 := As.mk hb1; have HQ1 := As.mk hb2; have HU1 := As.mk hu2; clear hu hb1 hb2 hu2))
      go_loopg [16, 17, 49] (t - f) (fun g wv ov i wr => ∃ k : Nat, k + g = t - f ∧ i = .int .i64 k ∧ wv = .int .i64 (withN m (sg.take k) : Nat) ∧ ov = .int .i64 (woutN m (sg.take k) : Nat) ∧ As (Pure w1 wr))
      case atStart => exact ⟨0, by omega, rfl, by simp [withN], by simp [woutN], ⟨Upd.refl _ _⟩⟩
      case round =>
        obtain ⟨k, hk, rfl, rfl, rfl, HW⟩ := hrel
        by_cases hlt : k < t - f
        · obtain ⟨g1, rfl⟩ : ∃ m, gk = m + 1 := ⟨gk - 1, by omega⟩
          obtain ⟨x, hx⟩ : ∃ x, sg[k]? = some x := ⟨_, List.getElem?_eq_getElem (by have := HSL.out; omega)⟩
          have hws := withN_snoc (m := m) hx
          have hos := woutN_snoc (m := m) hx
          have hwl := withN_le m (sg.take k)
          have hol := woutN_le m (sg.take k)
          rw [List.length_take] at hwl hol
          obtain ⟨b9, o9, hA9, _, hb9, c0, c1, c2, c3⟩ := tok_at (Rp.row_pure HX.out (HU1.out.trans HW.out (fun _ _ h => h))) hx
          cases hA9
          have HWS := As.mk hws
          have HOS := As.mk hos
          have HKK := As.mk hk
          clear hws hos hx hk
          generalize withN m (sg.take k) = wn at *
          generalize woutN m (sg.take k) = on at *
          have hw1 : IntKind.i64.wrap ((wn : Int) + 1) = (wn : Int) + 1 := IntWalk.i64_in _ (by omega)
          have hw2 : IntKind.i64.wrap ((on : Int) + 1) = (on : Int) + 1 := IntWalk.i64_in _ (by omega)
          by_cases h0 : x.k = 0
          · rw [h0] at c0
            have HHX := As.mk (fun W => Has_calls x.m m W)
            cases hb : decide (hasP x.m m)
            · rw [hb] at HHX HWS HOS
              rw [h0] at HWS HOS
              have HWS2 := As.mk (show withN m (sg.take (k + 1)) = wn from HWS.out.trans (by simp))
              have HOS2 := As.mk (show woutN m (sg.take (k + 1)) = on + 1 from HOS.out.trans (by simp))
              clear hb h0 HWS HOS
              go_wp2_with (go_at_call 47; refine (HHX.out _).mono ?_; rintro e w' ⟨rfl, rfl⟩)
              go_roundg g1
              case measure => omega
              case rel => exact ⟨k + 1, by have := HKK.out; omega, by go_num, by rw [HWS2.out], by rw [HOS2.out]; go_num, ⟨HW.out.alloc _⟩⟩
            · rw [hb] at HHX HWS HOS
              rw [h0] at HWS HOS
              have HWS2 := As.mk (show withN m (sg.take (k + 1)) = wn + 1 from HWS.out.trans (by simp))
              have HOS2 := As.mk (show woutN m (sg.take (k + 1)) = on from HOS.out.trans (by simp))
              clear hb h0 HWS HOS
              go_wp2_with (go_at_call 47; refine (HHX.out _).mono ?_; rintro e w' ⟨rfl, rfl⟩)
              go_roundg g1
              case measure => omega
              case rel => exact ⟨k + 1, by have := HKK.out; omega, by go_num, by rw [HWS2.out]; go_num, by rw [HOS2.out], ⟨HW.out.alloc _⟩⟩
          · have e0 : (x.k != 0) = true := by simpa using h0
            have hd : decide (x.k = 0) = false := by simpa using h0
            rw [hd] at HWS HOS
            have HWS2 := As.mk (show withN m (sg.take (k + 1)) = wn from HWS.out.trans (by simp))
            have HOS2 := As.mk (show woutN m (sg.take (k + 1)) = on from HOS.out.trans (by simp))
            clear h0 hd HWS HOS
            go_wp2
            go_roundg g1
            case measure => omega
            case rel => exact ⟨k + 1, by have := HKK.out; omega, by go_num, by rw [HWS2.out], by rw [HOS2.out], ⟨HW.out.alloc _⟩⟩
        · obtain rfl : k = t - f := by omega
          have htk : sg.take (t - f) = sg := List.take_of_length_le (by have := HSL.out; omega)
          have hwl := withN_le m sg
          have hol := woutN_le m sg
          have hsl := HSL.out
          rw [htk]
          have HUR := As.mk (HU1.out.trans HW.out (fun _ _ h => h))
          have HBR := As.mk ((HW.out.block w.heap.size (lt_of_block HB1.out) (fun h => h)).trans HB1.out)
          obtain ⟨z0, z1⟩ := cells2 ((HW.out.block (w.heap.size + 1) (lt_of_block HQ1.out) (fun h => h)).trans HQ1.out)
          have hz9 : 0 < woutN m sg := by have := HO.out; omega
          generalize withN m sg = wn at *
          generalize woutN m sg = on at *
          have hw1 : IntKind.i64.wrap ((wn : Int) + (on : Int)) = (wn : Int) + (on : Int) := IntWalk.i64_in _ (by omega)
          have hw3 : ((wn : Int) + (on : Int) == 0) = false := by simp; omega
          have hw4 : ((on : Int) == 0) = false := by simp; omega
          have hw5 : (on == 0) = false := by simp; omega
          clear hwl hol hsl
          go_wp2_with (go_at_call 48; refine (HR.out _ HUR.out).mono ?_; rintro r w2 ⟨rfl, hu⟩; have HB2 := As.mk ((hu.block w.heap.size (lt_of_block HBR.out) (fun h => h)).trans HBR.out); have HU2 := As.mk (HUR.out.trans hu (fun _ _ h => h)); clear hu; apply As.out)
          refine ⟨?_⟩
          have hbl : w.heap.size < w2.heap.size := (Array.getElem?_eq_some_iff.1 HB2.out).1
          have hcf : ∀ i, w2.frozen? ⟨w.heap.size, i, none⟩ = false := fun i => by simp [World.frozen?, HB2.out]
          obtain ⟨k0, k1, k2, k3, k4, k5, k6, k7⟩ := cells8 HB2.out
          go_wp2
          exact bodyPost_ret (step_end (rb := w.heap.size) rfl _ rfl (set8 (rb := w.heap.size) HB2.out _ _ _ _ _ _ _ _)) rfl ⟨rfl, set8_pure HU2.out (Nat.le_refl _) _ _ _ _ _ _ _ _⟩
end Go.Proofs.YteeindicpbcjaaaGreatDoor
