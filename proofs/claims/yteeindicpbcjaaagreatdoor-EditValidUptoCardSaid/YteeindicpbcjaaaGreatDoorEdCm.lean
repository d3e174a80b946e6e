/- The commands of edit, as any act's. (printed by gen/gen_edo.py) -/
import Derived.Test.YteeindicpbcjaaaGreatDoorEdJ
import Derived.Test.YteeindicpbcjaaaGreatDoorEdR
import Derived.Test.YteeindicpbcjaaaGreatDoorEdW
import Derived.Test.YteeindicpbcjaaaGreatDoorEdTc
namespace Go.Proofs.YteeindicpbcjaaaGreatDoor
open Go.RowKit
set_option linter.unusedVariables false
set_option linter.unusedSimpArgs false

/-- What kind a step is. -/
def Form (s : StepD) (B : Option Addr) (c' : Nat) : Prop := (∃ f t sl, s = repl f t sl) ∨ (∃ a b g h ins sl, s = arnd a b g h ins sl ∧ (sl = [] → B = none ∧ c' = 0)) ∨ (∃ k f t m, (k = 2 ∨ k = 3) ∧ s = markS k f t m)
/-- What a command answers. -/
def CmdR (w : World) (l : List Tok) (r : Ending) (w' : World) : Prop :=
  ∃ (s : StepD) (B : Option Addr) (c' : Nat) (e : Int), r = .returned (.tuple #[.agg #[.int .i64 s.k, .int .i64 s.fr, .int .i64 s.tt, .int .i64 s.gf, .int .i64 s.gt, .int .i64 s.ins, .slice B s.sl.length c', .int .i64 s.mark], .int .i64 e]) ∧ Pure w w' ∧ tokR.row w' (fun k => w.heap.size ≤ k) B s.sl ∧ s.sl.length ≤ c' ∧ s.sl.length ≤ 100000 ∧ (e ≠ 0 → s = repl 0 0 [] ∧ B = none ∧ c' = 0) ∧ (e = 0 → remapErr l s = 0 ∧ (houseCheck l).2 = 0) ∧ Form s B c'
theorem Form.doc {w : World} {F G : Nat → Prop} {A B : Option Addr} {c cb : Nat} {l : List Tok} {s : StepD} (hf : Form s B cb) (hne : l ≠ []) (hr : tokR.row w F A l) (hlc : l.length ≤ c) (hs : tokR.row w G B s.sl) (hsc : s.sl.length ≤ cb)
    (h0 : remapErr l s = 0) : DoC w A c l B cb s := by
  obtain ⟨r1, r2, r3, _⟩ := remap_zero.1 h0
  rcases hf with ⟨f, t, sl, rfl⟩ | ⟨a, b, g, h, ins, sl, rfl, hz⟩ | ⟨k, f, t, m, hk, rfl⟩
  · exact doc_repl hne hr hlc hs hsc r1 r2 r3
  · exact doc_arnd hne hr hlc hs hsc hz r1 r2 r3
  · exact doc_mark hk hne hr hlc r1 r2 r3
theorem form_zero : Form (repl 0 0 []) none 0 := .inl ⟨0, 0, [], rfl⟩
theorem cmd_of {w w' : World} {l : List Tok} {s : StepD} {B : Option Addr} {c' : Nat} {e : Int} {r : Ending} (ht : Told (toldS s e) B c' e w r w') (hrow : tokR.row w' (fun k => w.heap.size ≤ k) B (toldS s e).sl) (hc : (toldS s e).sl.length ≤ c') (hb : s.sl.length ≤ 100000)
    (hz : e ≠ 0 → B = none ∧ c' = 0) (h0 : e = 0 → remapErr l s = 0 ∧ (houseCheck l).2 = 0) (hf : e = 0 → Form s B c') : CmdR w l r w' := by
  refine ⟨toldS s e, B, c', e, ht.1, ht.2, hrow, hc, ?_, fun h => ⟨toldS_refused h, hz h⟩, ?_, ?_⟩
  · unfold toldS
    split
    · exact hb
    · simp [repl]
  · intro h
    rw [h, toldS_zero]
    exact h0 h
  · by_cases h : e = 0
    · have h9 := hf h
      rw [h, toldS_zero]
      exact h9
    · rw [toldS_refused h, (hz h).1, (hz h).2]
      exact form_zero
theorem cmd_insert {w : World} {F : Nat → Prop} {cb : Nat} {A : Option Addr} {c : Nat} {l : List Tok} {G : Nat → Prop} {T : Option Addr} {ct : Nat} {p : Int} {text : List Tok} (h : SchR w cb houseRules houseGroups) (hr : tokR.row w F A l) (hlc : l.length ≤ c) (hb : l.length ≤ 1048576 * 4) (hx : tokR.row w G T text) (hxb : text.length ≤ 100000) :
    Calls Tryz.prog 14 #[.pointer (some ⟨cb, 0, none⟩), .slice A l.length c, .int .i64 p, .slice T text.length ct] w (CmdR w l) :=
  (Insert_new (ct := ct) (p := p) h hr hlc hb hx (by omega)).mono fun r w' ⟨B', c', h1, ⟨h2, h3⟩, h4⟩ => cmd_of h1 h2 h3 hxb h4 (fun he => ⟨(ins_zero.1 he).2.2.2.2, (ins_zero.1 he).1⟩) (fun _ => .inl ⟨_, _, _, rfl⟩)
theorem cmd_wrap {w : World} {F : Nat → Prop} {cb : Nat} {A : Option Addr} {c : Nat} {l : List Tok} {G : Nat → Prop} {T : Option Addr} {ct : Nat} {f t : Int} {us : List Tok} (h : SchR w cb houseRules houseGroups) (hr : tokR.row w F A l) (hlc : l.length ≤ c) (hb : l.length ≤ 1048576 * 4) (hx : tokR.row w G T us) (hub : us.length ≤ 1000) (hus : ∀ x ∈ us, x.k = 1) (hun : us ≠ []) :
    Calls Tryz.prog 24 #[.pointer (some ⟨cb, 0, none⟩), .slice A l.length c, .int .i64 f, .int .i64 t, .slice T us.length ct] w (CmdR w l) :=
  (Wrap_new (ct := ct) (f := f) (t := t) h hr hlc hb hx (by omega) hus hun).mono fun r w' ⟨B', c', h1, ⟨h2, h3⟩, h4⟩ => cmd_of h1 h2 h3 (by show (wrapSl us).length ≤ _; rw [wrapSl_len]; omega) h4 (fun he => ⟨(wrap_zero.1 he).2.2.2.2, (wrap_zero.1 he).1⟩) (fun he => .inr (.inl ⟨_, _, _, _, _, _, rfl, fun hz => absurd (congrArg List.length hz) (by rw [wrapSl_len]; have := List.length_pos_iff.2 hun; simp; omega)⟩))
theorem cmd_delete {w : World} {F : Nat → Prop} {cb : Nat} {A : Option Addr} {c : Nat} {l : List Tok} {f t : Int} (h : SchR w cb houseRules houseGroups) (hr : tokR.row w F A l) (hlc : l.length ≤ c) (hb : l.length ≤ 1048576 * 4) :
    Calls Tryz.prog 17 #[.pointer (some ⟨cb, 0, none⟩), .slice A l.length c, .int .i64 f, .int .i64 t] w (CmdR w l) :=
  (Delete_calls (f := f) (t := t) h hr hlc hb).mono fun r w' h1 => cmd_of h1 (.inl (by unfold toldS; split <;> rfl)) (by unfold toldS; split <;> exact Nat.le_refl 0) (by simp [repl]) (fun _ => ⟨rfl, rfl⟩) (fun he => ⟨(del_zero.1 he).2.2.2.2, (del_zero.1 he).1⟩) (fun _ => .inl ⟨_, _, _, rfl⟩)
theorem cmd_split {w : World} {F : Nat → Prop} {cb : Nat} {A : Option Addr} {c : Nat} {l : List Tok} {p : Int} (h : SchR w cb houseRules houseGroups) (hr : tokR.row w F A l) (hlc : l.length ≤ c) (hb : l.length ≤ 1048576 * 4) :
    Calls Tryz.prog 26 #[.pointer (some ⟨cb, 0, none⟩), .slice A l.length c, .int .i64 p] w (CmdR w l) :=
  (Split_new (p := p) h hr hlc hb).mono fun r w' ⟨B', c', h1, ⟨h2, h3⟩, h4⟩ => cmd_of h1 h2 h3 (by simp [splS, repl]) h4 (fun he => by
    unfold splErr at he
    by_cases p0 : placesErr l p p = 0
    · rw [if_neg (by omega)] at he
      refine ⟨?_, (places_zero.1 p0).1⟩
      split at he
      · exact absurd he (by decide)
      · exact he
    · rw [if_pos p0] at he
      exact absurd he p0) (fun _ => .inl ⟨_, _, _, rfl⟩)
theorem cmd_retype {w : World} {F : Nat → Prop} {cb : Nat} {A : Option Addr} {c : Nat} {l : List Tok} {p t n : Int} (h : SchR w cb houseRules houseGroups) (hr : tokR.row w F A l) (hlc : l.length ≤ c) (hb : l.length ≤ 1048576 * 4) :
    Calls Tryz.prog 19 #[.pointer (some ⟨cb, 0, none⟩), .slice A l.length c, .int .i64 p, .int .i64 t, .int .i64 n] w (CmdR w l) :=
  (Retype_new (p := p) (t := t) (n := n) h hr hlc hb).mono fun r w' ⟨B', c', h1, ⟨h2, h3⟩, h4⟩ => cmd_of h1 h2 h3 (by simp [repl]) h4 (fun he => by
    unfold retErr at he
    by_cases p0 : placesErr l p p = 0
    · rw [if_neg (by omega)] at he
      refine ⟨?_, (places_zero.1 p0).1⟩
      split at he
      · exact absurd he (by decide)
      · split at he
        · exact absurd he (by decide)
        · exact he
    · rw [if_pos p0] at he
      exact absurd he p0) (fun _ => .inl ⟨_, _, _, rfl⟩)
theorem cmd_toggle {w : World} {F : Nat → Prop} {cb : Nat} {A : Option Addr} {c : Nat} {l : List Tok} {f t m : Int} (h : SchR w cb houseRules houseGroups) (hr : tokR.row w F A l) (hlc : l.length ≤ c) (hb : l.length ≤ 1048576 * 4) :
    Calls Tryz.prog 21 #[.pointer (some ⟨cb, 0, none⟩), .slice A l.length c, .int .i64 f, .int .i64 t, .int .i64 m] w (CmdR w l) :=
  (Toggle_calls (f := f) (t := t) (m := m) h hr hlc hb).mono fun r w' h1 => cmd_of h1 (.inl (by unfold toldS; split <;> rfl)) (by unfold toldS; split <;> exact Nat.le_refl 0) (by simp [markS]) (fun _ => ⟨rfl, rfl⟩) (fun he => ⟨(tog_zero.1 he).2.2.2.2.2.2, (tog_zero.1 he).1⟩) (fun _ => .inr (.inr ⟨_, _, _, _, togK_two _ _ _ _, rfl⟩))
theorem cmd_lift {w : World} {F : Nat → Prop} {cb : Nat} {A : Option Addr} {c : Nat} {l : List Tok} {p : Int} (h : SchR w cb houseRules houseGroups) (hr : tokR.row w F A l) (hlc : l.length ≤ c) (hb : l.length ≤ 1048576 * 4) :
    Calls Tryz.prog 25 #[.pointer (some ⟨cb, 0, none⟩), .slice A l.length c, .int .i64 p] w (CmdR w l) :=
  (Lift_new (p := p) h hr hlc hb).mono fun r w' ⟨B', c', h1, ⟨h2, h3, h5⟩, h4⟩ => cmd_of h1 h2 h3 (by
    show List.length (_ ++ _) ≤ _
    rw [List.length_append]
    have : ∀ (P : Prop) [Decidable P] (t : Tok), (if P then [] else [t] : List Tok).length ≤ 1 := fun P _ t => by split <;> simp
    have h7 := this (((aroundL l p).toNat : Int) = ((aroundL l (aroundL l p)).toNat : Int) + 1) shutT
    have h8 := this (partL l (aroundL l p).toNat + 1 = partL l (aroundL l (aroundL l p)).toNat) ((l[(aroundL l (aroundL l p)).toNat]?).getD shutT)
    omega) h4 (fun he => ⟨(lift_zero.1 he).2.2.2.2.2, (lift_zero.1 he).1⟩) (fun he => .inr (.inl ⟨_, _, _, _, _, _, rfl, fun hz => h5 (by rw [he, toldS_zero]; exact hz)⟩))
theorem cmd_join {w : World} {F : Nat → Prop} {cb : Nat} {A : Option Addr} {c : Nat} {l : List Tok} {p : Int} (h : SchR w cb houseRules houseGroups) (hr : tokR.row w F A l) (hlc : l.length ≤ c) (hb : l.length ≤ 1048576 * 4) :
    Calls Tryz.prog 27 #[.pointer (some ⟨cb, 0, none⟩), .slice A l.length c, .int .i64 p] w (CmdR w l) := by
  have hpl := fun W (hW : Pure w W) => places_calls (f := p) (t := p) (c := c) (h.pure hW) (Rp.row_pure hr hW) hb
  have hno : ∀ {e : Int} {r : Ending} {w' : World}, e ≠ 0 → Told (repl 0 0 []) none 0 e w r w' → CmdR w l r w' := fun he h1 => ⟨_, _, _, _, h1.1, h1.2, .inl rfl, Nat.le_refl _, by simp [repl], fun _ => ⟨rfl, rfl, rfl⟩, fun h9 => absurd h9 he, form_zero⟩
  by_cases p0 : placesErr l p p = 0
  · obtain ⟨hc, q0, _, q1⟩ := places_zero.1 p0
    have hne := house_ne hc
    rw [p0] at hpl
    by_cases p1 : p = 0
    · exact (Join_far hpl (.inr (.inl ⟨rfl, p1, rfl⟩))).mono fun r w' h1 => hno (by decide) h1
    · by_cases p2 : p = (l.length : Int)
      · exact (Join_far hpl (.inr (.inr ⟨rfl, p1, p2, rfl⟩))).mono fun r w' h1 => hno (by decide) h1
      · obtain ⟨m, rfl⟩ := Int.eq_ofNat_of_zero_le q0
        obtain ⟨q, rfl⟩ : ∃ q, m = q + 1 := ⟨m - 1, by omega⟩
        obtain ⟨bA, oA, rfl⟩ := row_some hr hne
        obtain ⟨x, hx⟩ : ∃ x, l[q]? = some x := ⟨_, List.getElem?_eq_getElem (by omega)⟩
        obtain ⟨y, hy⟩ : ∃ y, l[q + 1]? = some y := ⟨_, List.getElem?_eq_getElem (by omega)⟩
        by_cases hxs : x = shutT
        · rw [hxs] at hx
          by_cases hyk : y.k = 1
          · have hl2 := house_len_le hc
            refine (Join_go (s' := toldS (repl (q : Nat) (((q + 1 : Nat) : Int) + 1) []) (remapErr l (repl (q : Nat) (((q + 1 : Nat) : Int) + 1) []))) (e := remapErr l (repl (q : Nat) (((q + 1 : Nat) : Int) + 1) [])) hr rfl hx hy hyk hb hpl (fun W hW => ?_)).mono fun r w' h1 => cmd_of (s := repl (q : Nat) (((q + 1 : Nat) : Int) + 1) []) h1 (.inl (by unfold toldS; split <;> rfl)) (by unfold toldS; split <;> exact Nat.le_refl 0) (by simp [repl]) (fun _ => ⟨rfl, rfl⟩) (fun he => ⟨he, hc⟩) (fun _ => .inl ⟨_, _, _, rfl⟩)
            have := replace_repl (f := (q : Int)) (t := ((q + 1 : Nat) : Int) + 1) (B := none) (cs := 0) (sl := []) (G := fun _ => True) (h.pure hW) hne (Rp.row_pure hr hW) hlc hb (.inl rfl) (Nat.le_refl _) (by simp)
            have hB : toldB none (remapErr l (repl (q : Nat) (((q + 1 : Nat) : Int) + 1) [])) = none := by unfold toldB; split <;> rfl
            have hC : toldC 0 (remapErr l (repl (q : Nat) (((q + 1 : Nat) : Int) + 1) [])) = 0 := by unfold toldC; split <;> rfl
            rw [hB, hC] at this
            exact this
          · exact (Join_right hr rfl hx hy hyk hb hpl).mono fun r w' h1 => hno (by decide) h1
        · exact (Join_left hr rfl hx hxs (by omega) hb hpl).mono fun r w' h1 => hno (by decide) h1
  · exact (Join_far hpl (.inl ⟨p0, rfl⟩)).mono fun r w' h1 => hno p0 h1
end Go.Proofs.YteeindicpbcjaaaGreatDoor
