/- EditRetypes: the law's walk. -/
import Derived.Test.YteeindicpbcjaaaGreatDoorEdR
import Derived.Test.YteeindicpbcjaaaGreatDoorEdZ
import Derived.Test.YteeindicpbcjaaaGreatDoorEditDeletes
import Derived.Test.YteeindicpbcjaaaGreatDoorHeldTwo
namespace Go.Proofs.YteeindicpbcjaaaGreatDoor
open Go.RowKit
set_option linter.unusedVariables false
set_option linter.unusedSimpArgs false

theorem row_lt {w : World} {F : Nat → Prop} {A : Option Addr} {l : List Tok} (h : tokR.row w F A l) : tokR.row w (fun k => k < w.heap.size) A l := by
  rcases h with h | ⟨b, o, hA, hF, hb, hc⟩
  · exact .inl h
  · exact .inr ⟨b, o, hA, hb, hb, hc⟩
theorem set4_upd {w0 w : World} {b p : Nat} (h : Upd (fun k => k = b) w0 w) (v0 v1 v2 v3 : Value) : Upd (fun k => k = b) w0 ((((w.setCell ⟨b, p, none⟩ v0).setCell ⟨b, p + 1, none⟩ v1).setCell ⟨b, p + 2, none⟩ v2).setCell ⟨b, p + 3, none⟩ v3) :=
  h |>.setCell (p := ⟨b, p, none⟩) (fun _ => rfl) _ |>.setCell (p := ⟨b, p + 1, none⟩) (fun _ => rfl) _ |>.setCell (p := ⟨b, p + 2, none⟩) (fun _ => rfl) _ |>.setCell (p := ⟨b, p + 3, none⟩) (fun _ => rfl) _
theorem cell_ne {w : World} {b i j : Nat} {v : Value} (h : i ≠ j) : (w.setCell ⟨b, i, none⟩ v).cell? ⟨b, j, none⟩ = w.cell? ⟨b, j, none⟩ :=
  World.cell?_setCell_other _ _ _ _ (by intro e; injection e with _ e2; exact h e2)
/-- A token is stored into a row. -/
theorem row_set {w : World} {F : Nat → Prop} {b o p i : Nat} {l : List Tok} {z : Tok} (y : Tok) (hr : tokR.row w F (some ⟨b, o, none⟩) l) (hz : l[i]? = some z) (hp : p = o + i * 4) :
    tokR.row ((((w.setCell ⟨b, p, none⟩ (.int .i64 y.k)).setCell ⟨b, p + 1, none⟩ (.int .i64 y.t)).setCell ⟨b, p + 2, none⟩ (.int .i64 y.n)).setCell ⟨b, p + 3, none⟩ (.int .i64 y.m)) F (some ⟨b, o, none⟩) (l.set i y) := by
  obtain ⟨b1, o1, hA, hF, hb, c0, c1, c2, c3⟩ := tok_at hr hz
  cases hA
  subst hp
  have hsz : ∀ (W : World) a v, (W.setCell a v).heap.size = W.heap.size := fun W a v => by simp [World.setCell]
  have hne : l ≠ [] := by rintro rfl; cases hz
  refine .inr ⟨b, o, rfl, hF, by simp only [hsz]; exact hb, fun j x hx => ⟨x.cs, rfl, fun k u hu => ?_⟩⟩
  have hk4 : k < 4 := (List.getElem?_eq_some_iff.1 hu).1
  show World.cell? _ ⟨b, o + j * 4 + k, none⟩ = some u
  by_cases hj : i = j
  · subst hj
    rw [List.getElem?_set_self (List.getElem?_eq_some_iff.1 hz).1] at hx
    cases hx
    match k, hk4, hu with
    | 0, _, hu =>
      cases hu
      rw [cell_ne (by omega), cell_ne (by omega), cell_ne (by omega)]
      exact World.cell?_setCell_same' _ _ _ (by rw [c0]; rfl)
    | 1, _, hu =>
      cases hu
      rw [cell_ne (by omega), cell_ne (by omega)]
      exact World.cell?_setCell_same' _ _ _ (by rw [cell_ne (by omega), c1]; rfl)
    | 2, _, hu =>
      cases hu
      rw [cell_ne (by omega)]
      exact World.cell?_setCell_same' _ _ _ (by rw [cell_ne (by omega), cell_ne (by omega), c2]; rfl)
    | 3, _, hu =>
      cases hu
      exact World.cell?_setCell_same' _ _ _ (by rw [cell_ne (by omega), cell_ne (by omega), cell_ne (by omega), c3]; rfl)
  · rw [List.getElem?_set_ne hj] at hx
    rw [cell_ne (by omega), cell_ne (by omega), cell_ne (by omega), cell_ne (by omega)]
    obtain ⟨b2, o2, hA2, _, _, d0, d1, d2, d3⟩ := tok_at hr hx
    cases hA2
    match k, hk4, hu with
    | 0, _, hu => cases hu; exact d0
    | 1, _, hu => cases hu; exact d1
    | 2, _, hu => cases hu; exact d2
    | 3, _, hu => cases hu; exact d3
/-- An empty literal is an own row. -/
theorem own_empty {e : Nat} (W : World) : tokR.own e (W.alloc (.cells #[] e)) (fun k => W.heap.size ≤ k) (.slice (some ⟨W.heap.size, 0, none⟩) 0 0) [] := by
  refine ⟨[], ⟨by simp, .inr ⟨W.heap.size, 0, #[], rfl, Nat.zero_le _, heap_alloc_new W _, Nat.le_refl _, by unfold maxLen; omega, by simp, by simp⟩⟩, ?_, Reps.nil _ _⟩
  intro k hk
  injection hk with hk
  rw [← hk]
  exact Nat.le_refl _
theorem Retype_ok {w : World} {F : Nat → Prop} {cb : Nat} {A : Option Addr} {c : Nat} {l : List Tok} {p t n : Int} {i : Nat} (h : SchR w cb houseRules houseGroups) (hr : tokR.row w F A l) (hlc : l.length ≤ c) (hb : l.length ≤ 1048576 * 4) (h0 : retErr l p t n = 0) (hi : aroundL l p = (i : Int)) :
    Calls Tryz.prog 19 #[.pointer (some ⟨cb, 0, none⟩), .slice A l.length c, .int .i64 p, .int .i64 t, .int .i64 n] w (fun r w' => (∃ B' c', r = .returned (.tuple #[replV (i : Nat) ((i : Nat) + 1) B' 1 c', .int .i64 0]) ∧ tokR.row w' (fun _ => True) B' [openT t n] ∧ 1 ≤ c') ∧ Pure w w') := by
  have h1 := Retype_calls (p := p) (t := t) (n := n) h hr hlc hb
  rw [h0, hi] at h1
  exact h1.mono fun r w' ⟨B', c', ⟨h2, h3⟩, ⟨h4, h5⟩, _⟩ => ⟨⟨B', c', h2, h4, h5⟩, h3⟩
theorem Retype_no {w : World} {F : Nat → Prop} {cb : Nat} {A : Option Addr} {c : Nat} {l : List Tok} {p t n : Int} (h : SchR w cb houseRules houseGroups) (hr : tokR.row w F A l) (hlc : l.length ≤ c) (hb : l.length ≤ 1048576 * 4) (h0 : retErr l p t n ≠ 0) :
    Calls Tryz.prog 19 #[.pointer (some ⟨cb, 0, none⟩), .slice A l.length c, .int .i64 p, .int .i64 t, .int .i64 n] w (fun r w' => r = .returned (.tuple #[step0, .int .i64 (retErr l p t n)]) ∧ Pure w w') := by
  refine (Retype_calls (p := p) (t := t) (n := n) h hr hlc hb).mono ?_
  rintro r w' ⟨B', c', ⟨rfl, h3⟩, _, h6⟩
  obtain ⟨rfl, rfl⟩ := h6 h0
  rw [toldS_refused h0]
  exact ⟨rfl, h3⟩
theorem ret_zero {l : List Tok} {p t n : Int} : retErr l p t n = 0 ↔ (houseCheck l).2 = 0 ∧ 0 ≤ p ∧ p ≤ l.length ∧ 0 ≤ aroundL l p ∧ rightB (openT t n) = true ∧ remapErr l (repl (aroundL l p) (aroundL l p + 1) [openT t n]) = 0 := by
  unfold retErr
  by_cases h0 : placesErr l p p = 0
  · rw [if_neg (by omega)]
    obtain ⟨h1, h2, _, h3⟩ := places_zero.1 h0
    by_cases h4 : aroundL l p < 0
    · rw [if_pos h4]
      exact ⟨fun h => absurd h (by decide), fun h => by omega⟩
    · rw [if_neg h4]
      cases h5 : rightB (openT t n)
      · rw [if_pos rfl]
        exact ⟨fun h => absurd h (by decide), fun h => absurd h.2.2.2.2.1 (by decide)⟩
      · rw [if_neg (by decide)]
        exact ⟨fun h => ⟨h1, h2, h3, by omega, rfl, h⟩, fun h => h.2.2.2.2.2⟩
  · rw [if_pos h0]
    exact ⟨fun h => absurd h h0, fun h => absurd (places_zero.2 ⟨h.1, h.2.1, by omega, h.2.2.1⟩) h0⟩
set_option maxRecDepth 100000 in
set_option maxHeartbeats 4000000 in
theorem Retypes_no {w : World} {F : Nat → Prop} {A : Option Addr} {c : Nat} {l : List Tok} {p t n : Int} (hr : tokR.row w F A l) (hlc : l.length ≤ c) (hb : l.length ≤ 1048576 * 4) (h0 : retErr l p t n ≠ 0) :
    Calls Tryz.prog 4 #[.slice A l.length c, .int .i64 p, .int .i64 t, .int .i64 n] w (fun r w' => r = .returned (.bool true) ∧ Pure w w') := by
  have HH := As.mk (fun W => House_calls W)
  have HAW := As.mk (fun W => awake12_calls W)
  have HTW := As.mk (fun W => twin_zero W)
  by_cases h1 : 200 < l.length
  · have i1 : (200 : Int) < (l.length : Int) := by omega
    clear hr h0
    go_enter Tryz.func4, Tryz.ntmps4
    go_wp2_with (go_at_call 12; refine (HAW.out _).mono ?_; rintro r w1 ⟨rfl, hu⟩; have HU1 := As.mk hu; clear hu)
    go_ret
    exact ⟨rfl, HU1.out⟩
  · have i1 : ¬ (200 : Int) < (l.length : Int) := by omega
    have HI := As.mk (fun W cb (hu : Pure w W) hs => Retype_no (cb := cb) hs (Rp.row_pure hr hu) hlc hb h0)
    have HA := As.mk (fun W (hu : Pure w W) => Apply_zero (Rp.row_pure hr hu) hlc hb)
    have HR := As.mk (fun W (hu : Pure w W) => around_calls (at' := p) (Rp.row_pure hr hu) hb hlc)
    have f0 : (retErr l p t n != 0) = true := by simpa using h0
    generalize retErr l p t n = e at *
    generalize aroundL l p = ar at *
    clear hr h0
    go_enter Tryz.func4, Tryz.ntmps4
    go_wp2_with (first | (go_at_call 12; refine (HAW.out _).mono ?_; rintro r w6 ⟨rfl, hu⟩; have HU6 := As.mk (HU5.out.trans hu (fun _ _ h => h)); clear hu) | (go_at_call 15; refine (HTW.out _).mono ?_; rintro r w5 ⟨rfl, hu⟩; have HU5 := As.mk (HU4.out.trans hu (fun _ _ h => h)); clear hu) | (go_at_call 20; refine (HR.out _ HU3.out).mono ?_; rintro r w4 ⟨rfl, hu⟩; have HU4 := As.mk (HU3.out.trans hu (fun _ _ h => h)); obtain ⟨k0, k1, k2, k3, k4, k5, k6, k7⟩ := cells8 ((hu.block _ (lt_of_block HB3.out) (fun h => h)).trans HB3.out); clear hu) | (go_at_call 16; refine (HA.out _ (HU2.out.alloc _)).mono ?_; rintro r w3 ⟨⟨v3, e3, rfl⟩, hu⟩; obtain ⟨hb3, hu3⟩ := one_up hu; have HB3 := As.mk hb3; have HU3 := As.mk (HU2.out.trans hu3 (fun _ _ h => h)); clear hu hb3 hu3) | (go_at_call 19; refine (HI.out _ _ HU1.out HS1.out).mono ?_; rintro r w2 ⟨rfl, hu⟩; have HU2 := As.mk (HU1.out.trans hu (fun _ _ h => h)); clear hu) | (go_at_call 13; refine (HH.out w).mono ?_; rintro r w1 ⟨cb1, rfl, hs, hu⟩; have HS1 := As.mk hs; have HU1 := As.mk hu; clear hu hs))
    go_ret
    exact ⟨rfl, HU6.out⟩
theorem set4_pure {w0 w : World} {b p : Nat} (h : Pure w0 w) (hb : w0.heap.size ≤ b) (v0 v1 v2 v3 : Value) : Pure w0 ((((w.setCell ⟨b, p, none⟩ v0).setCell ⟨b, p + 1, none⟩ v1).setCell ⟨b, p + 2, none⟩ v2).setCell ⟨b, p + 3, none⟩ v3) :=
  h |>.setCell (p := ⟨b, p, none⟩) (fun h => absurd h (by show ¬ b < w0.heap.size; omega)) _ |>.setCell (p := ⟨b, p + 1, none⟩) (fun h => absurd h (by show ¬ b < w0.heap.size; omega)) _ |>.setCell (p := ⟨b, p + 2, none⟩) (fun h => absurd h (by show ¬ b < w0.heap.size; omega)) _ |>.setCell (p := ⟨b, p + 3, none⟩) (fun h => absurd h (by show ¬ b < w0.heap.size; omega)) _
theorem own_open {e : Nat} {w : World} {F : Nat → Prop} {A : Option Addr} {c : Nat} {xs : List Tok} (h : tokR.own e w F (.slice A xs.length c) xs) (hne : xs ≠ []) : ∃ g cur, A = some ⟨g, 0, none⟩ ∧ w.heap[g]? = some (.cells cur e (0, 0)) := by
  obtain ⟨inner, ho, _, _⟩ := h
  rcases ho.2 with ⟨he, h0⟩ | ⟨g, cap, cur, he, _, hg, _⟩
  · exact absurd (List.eq_nil_of_length_eq_zero h0) hne
  · injection he with hA
    exact ⟨g, _, hA, hg⟩
theorem row_off {w : World} {F : Nat → Prop} {rb : Nat} {A : Option Addr} {y : Tok} {t : TypeId} {fr : Nat × Nat} (h : w.heap[rb]? = some (.cells #[.int .i64 0, .int .i64 0, .int .i64 0, .int .i64 0, .int .i64 0, .int .i64 0, .slice none 0 0, .int .i64 0] t fr)) (hr : tokR.row w F A [y]) (hy : y.k = 1) : tokR.row w (fun k => k ≠ rb) A [y] := by
  obtain ⟨b, o, hA, _, _, c0, _⟩ := tok_at (j := 0) hr rfl
  rcases hr with h0 | ⟨b', o', hA', hF, hb, hc⟩
  · cases h0
  · rw [hA] at hA'
    injection hA' with hA'
    injection hA' with h1 h2
    subst h1 h2
    refine .inr ⟨b, o, hA, ?_, hb, hc⟩
    rintro rfl
    rw [hy] at c0
    rcases o with _ | _ | _ | _ | _ | _ | _ | _ | o <;> simp [World.cell?, h] at c0
set_option maxRecDepth 100000 in
set_option maxHeartbeats 4000000 in
theorem Retypes_ok {w : World} {F : Nat → Prop} {A : Option Addr} {c : Nat} {l : List Tok} {p t n : Int} (hr : tokR.row w F A l) (hlc : l.length ≤ c) (hb : l.length ≤ 1048576 * 4) (h0 : retErr l p t n = 0) (h1 : l.length ≤ 200) :
    Calls Tryz.prog 4 #[.slice A l.length c, .int .i64 p, .int .i64 t, .int .i64 n] w (fun r w' => r = .returned (.bool true) ∧ Pure w w') := by
  have HH := As.mk (fun W => House_calls W)
  have HAW := As.mk (fun W => awake12_calls W)
  have i1 : ¬ (200 : Int) < (l.length : Int) := by omega
  obtain ⟨hl, p0, p1, ha0, hq, hre⟩ := ret_zero.1 h0
  obtain ⟨i, hi⟩ := Int.eq_ofNat_of_zero_le ha0
  rw [hi] at hre
  obtain ⟨il, d2, d3, d4, y, hy, hyo, hyr, d8, d9⟩ := retypes_plain hl hi hre
  have hs1 := (remap_step hre).1
  have hs2 := (remap_step d8).1
  have hne := house_ne hl
  have hne2 := house_ne d3
  obtain ⟨x, hX⟩ : ∃ x, l.set i (openT t n) = x := ⟨_, rfl⟩
  have hxl : x.length = l.length := by rw [← hX, List.length_set]
  rw [hX] at d2 d3 d4 d8 d9 hs2 hne2
  have hr2 : retErr x p y.t y.n = 0 := ret_zero.2 ⟨d3, p0, by omega, by omega, by rw [← hyo]; exact hyr, by rw [d4, ← hyo]; exact d8⟩
  obtain ⟨bA, oA, rfl⟩ := row_some hr hne
  obtain ⟨b9, o9, hA9, _, hbA, c0, c1, c2, c3⟩ := tok_at hr hy
  cases hA9
  have HCS := As.mk (And.intro c1 c2)
  have HBA := As.mk hbA
  have HI := As.mk (fun W cb (hu : Pure w W) hs => Retype_ok (cb := cb) hs (Rp.row_pure hr hu) hlc hb h0 hi)
  have HA1 := As.mk (fun W (hu : Pure w W) B cb (hrow : tokR.row W (fun _ => True) B [openT t n]) (hcb : 1 ≤ cb) => Apply_ok (sl := [openT t n]) hne (Rp.row_pure hr hu) hlc hb hrow hcb (by simp) hs1 d2)
  have HAR := As.mk (fun W (hu : Pure w W) => (by
    have := around_calls (at' := p) (Rp.row_pure hr hu) hb hlc
    rw [hi] at this
    exact this : Calls Tryz.prog 20 #[.slice (some ⟨bA, oA, none⟩) l.length c, .int .i64 p] W fun e w' => e = .returned (.int .i64 (i : Nat)) ∧ Pure W w'))
  have HB := As.mk (fun W cb (B : Addr) (hs : SchR W cb houseRules houseGroups) (hrow : tokR.row W (fun _ => True) (some B) x) => (by
    have := Retype_ok (p := p) (t := y.t) (n := y.n) hs hrow (Nat.le_refl _) (by omega) hr2 d4
    rw [← hyo] at this
    exact this : Calls Tryz.prog 19 #[.pointer (some ⟨cb, 0, none⟩), .slice (some B) x.length x.length, .int .i64 p, .int .i64 y.t, .int .i64 y.n] W (fun r w' => (∃ B' c', r = .returned (.tuple #[replV (i : Nat) ((i : Nat) + 1) B' 1 c', .int .i64 0]) ∧ tokR.row w' (fun _ => True) B' [y] ∧ 1 ≤ c') ∧ Pure W w')))
  have HA2 := As.mk (fun W (B : Addr) B' cb (hrow : tokR.row W (fun _ => True) (some B) x) (hs : tokR.row W (fun _ => True) B' [y]) (hcb : 1 ≤ cb) => Apply_ok (f := (i : Nat)) (t := (i : Nat) + 1) (sl := [y]) hne2 hrow (Nat.le_refl _) (by omega) hs hcb (by simp) hs2 d9)
  have HL1 := As.mk (fun W (B g : Addr) cg (hrow : tokR.row W (fun _ => True) (some B) x) (hw : tokR.row W (fun _ => True) (some g) (l.set i (openT t n))) => (by
    rw [hX] at hw
    have := Alike_same (c := x.length) (c' := cg) hrow hw (by omega)
    rw [show (Value.slice (some g) x.length cg) = Value.slice (some g) l.length cg by rw [hxl]] at this
    exact this : Calls Tryz.prog 18 #[.slice (some B) x.length x.length, .slice (some g) l.length cg] W fun e w' => e = .returned (.bool true) ∧ Pure W w'))
  have HL2 := As.mk (fun W (B : Addr) (hrow : tokR.row W (fun _ => True) (some B) l) (hrl : tokR.row W (fun _ => True) (some ⟨bA, oA, none⟩) l) => Alike_same (c := l.length) (c' := c) hrow hrl hb)
  have HRL := As.mk (row_lt hr)
  have HYK := As.mk (show y.k = 1 from congrArg Tok.k hyo)
  have HYL := As.mk hy
  have HLE := As.mk hb
  have HNE := As.mk hne
  clear hxl hr d2 d3 d4 d8 d9 hs1 hs2 hne hne2 hX hl hre h0 hq ha0 hr2 hy hyo hyr c0 c1 c2 c3 hbA hi hb
  go_enter Tryz.func4, Tryz.ntmps4
  go_wp2_with (first | (go_at_call 20; refine (HAR.out _ HU3.out).mono ?_; rintro r w4 ⟨rfl, hu⟩; have HU4 := As.mk (HU3.out.trans hu (fun _ _ h => h)); have HR4 := As.mk (Rp.row_pure HR3.out hu); have HS4 := As.mk (HS3.out.pure hu); have HRX4 := As.mk (row_lt (Rp.row_pure HR3.out hu)); clear hu) | (go_at_call 16; refine (HA1.out _ (HU2.out.alloc _) _ _ (Rp.row_pure HR2.out (Upd.alloc1 _ _ _)) HC2.out).mono ?_; rintro r w3 ⟨⟨B3, rfl, hrow⟩, hu⟩; have HU3 := As.mk ((HU2.out.alloc _).trans hu (fun _ _ h => h)); have HR3 := As.mk hrow; have HS3 := As.mk (HS2.out.pure ((Upd.alloc1 _ _ _).trans hu (fun _ _ h => h))); clear hu hrow) | (go_at_call 19; refine (HI.out _ _ HU1.out HS1.out).mono ?_; rintro r w2 ⟨⟨B2, c2, rfl, hrow, hc2⟩, hu⟩; have HU2 := As.mk (HU1.out.trans hu (fun _ _ h => h)); have HR2 := As.mk hrow; have HC2 := As.mk hc2; have HS2 := As.mk (HS1.out.pure hu); clear hu hrow hc2) | (go_at_call 13; refine (HH.out w).mono ?_; rintro r w1 ⟨cb1, rfl, hs, hu⟩; have HS1 := As.mk hs; have HU1 := As.mk hu; clear hu hs))
  have HS4d := As.mk (HS4.out.pure (Upd.refl _ _).drew)
  have HR4d := As.mk (Rp.row_pure HR4.out (Upd.refl _ _).drew)
  have HK8 := As.mk (fun v (hu : Pure w v) => (⟨(hu.cell HBA.out (fun h => h)).trans HCS.out.1, (hu.cell HBA.out (fun h => h)).trans HCS.out.2⟩ : v.cell? ⟨bA, oA + i * 4 + 1, none⟩ = some (.int .i64 y.t) ∧ v.cell? ⟨bA, oA + i * 4 + 2, none⟩ = some (.int .i64 y.n)))
  refine wp_region_T (P := Tryz.prog) (fun v => v.cell? ⟨bA, oA + i * 4 + 1, none⟩ = some (.int .i64 y.t) ∧ v.cell? ⟨bA, oA + i * 4 + 2, none⟩ = some (.int .i64 y.n)) 19 (by kernel_rfl) ?_ (fun hHeld => ?_)
  · with_reducible (first | exact HK8.out _ HU4.out.drew | exact HK8.out _ HU5.out | exact HK8.out _ (HU5.out.alloc _) | exact HK8.out _ (HU4.out.alloc _).drew | exact HK8.out _ (set8_pure HU5.out (Nat.le_trans HU4.out.size (Nat.le_refl _)) _ _ _ _ _ _ _ _))
  refine wpAnyT_take (i := 0) (oi := { dst := (some 64), op := (Go.Op.move (Go.Operand.tmp 9)), type := 24, pos := "law.go:202", after := #[], guard := none }) (v := ?_) rfl (by kernel_rfl) (by kernel_rfl) (by kernel_rfl) (by kernel_rfl) (fun _ _ _ h => h) (Or.inl ⟨by rfl, (by intro w hSw; (try dsimp only at hSw); go_simp; try with_reducible rfl)⟩) (by assumption) ?_
  (try simp only [Act.put, List.setIfInBounds_toArray, List.set_cons_zero, List.set_cons_succ])
  refine wpAnyT_take (i := 1) (oi := { dst := (some 65), op := (Go.Op.move (Go.Operand.tmp 12)), type := 22, pos := "law.go:202", after := #[], guard := none }) (v := ?_) rfl (by kernel_rfl) (by kernel_rfl) (by kernel_rfl) (by kernel_rfl) (fun _ _ _ h => h) (Or.inl ⟨by rfl, (by intro w hSw; (try dsimp only at hSw); go_simp; try with_reducible rfl)⟩) (by assumption) ?_
  (try simp only [Act.put, List.setIfInBounds_toArray, List.set_cons_zero, List.set_cons_succ])
  refine wpAnyT_take (i := 2) (oi := { dst := (some 66), op := (Go.Op.move (Go.Operand.tmp 1)), type := 3, pos := "law.go:202", after := #[], guard := none }) (v := ?_) rfl (by kernel_rfl) (by kernel_rfl) (by kernel_rfl) (by kernel_rfl) (fun _ _ _ h => h) (Or.inl ⟨by rfl, (by intro w hSw; (try dsimp only at hSw); go_simp; try with_reducible rfl)⟩) (by assumption) ?_
  (try simp only [Act.put, List.setIfInBounds_toArray, List.set_cons_zero, List.set_cons_succ])
  refine wpAnyT_take (i := 3) (oi := { dst := (some 67), op := (Go.Op.move (Go.Operand.tmp 0)), type := 22, pos := "law.go:202", after := #[], guard := none }) (v := ?_) rfl (by kernel_rfl) (by kernel_rfl) (by kernel_rfl) (by kernel_rfl) (fun _ _ _ h => h) (Or.inl ⟨by rfl, (by intro w hSw; (try dsimp only at hSw); go_simp; try with_reducible rfl)⟩) (by assumption) ?_
  (try simp only [Act.put, List.setIfInBounds_toArray, List.set_cons_zero, List.set_cons_succ])
  refine wpAnyT_take (i := 4) (oi := { dst := (some 68), op := (Go.Op.move (Go.Operand.tmp 14)), type := 3, pos := "law.go:202", after := #[], guard := none }) (v := ?_) rfl (by kernel_rfl) (by kernel_rfl) (by kernel_rfl) (by kernel_rfl) (fun _ _ _ h => h) (Or.inl ⟨by rfl, (by intro w hSw; (try dsimp only at hSw); go_simp; try with_reducible rfl)⟩) (by assumption) ?_
  (try simp only [Act.put, List.setIfInBounds_toArray, List.set_cons_zero, List.set_cons_succ])
  refine wpAnyT_take (i := 5) (oi := { dst := (some 69), op := (Go.Op.indexAddr 22 (Go.Operand.tmp 67) (Go.Operand.tmp 68)), type := 0, pos := "law.go:202", after := #[{ on := 3, ground := Go.Ground.data }, { on := 4, ground := Go.Ground.data }], guard := none }) (v := ?_) rfl (by kernel_rfl) (by kernel_rfl) (by kernel_rfl) (by kernel_rfl) (fun _ _ _ h => h) (Or.inl ⟨by rfl, (by intro w hSw; (try dsimp only at hSw); go_simp; try with_reducible rfl)⟩) (by assumption) ?_
  (try simp only [Act.put, List.setIfInBounds_toArray, List.set_cons_zero, List.set_cons_succ])
  refine wpAnyT_take (i := 6) (oi := { dst := (some 70), op := (Go.Op.fieldAddr 40 (Go.Operand.tmp 69) 1), type := 0, pos := "law.go:202", after := #[{ on := 5, ground := Go.Ground.data }], guard := none }) (v := ?_) rfl (by kernel_rfl) (by kernel_rfl) (by kernel_rfl) (by kernel_rfl) (fun _ _ _ h => h) (Or.inl ⟨by rfl, (by intro w hSw; (try dsimp only at hSw); go_simp; try with_reducible rfl)⟩) (by assumption) ?_
  (try simp only [Act.put, List.setIfInBounds_toArray, List.set_cons_zero, List.set_cons_succ])
  refine wpAnyT_take (i := 7) (oi := { dst := (some 71), op := (Go.Op.load 3 (Go.Operand.tmp 70)), type := 3, pos := "law.go:202", after := #[{ on := 6, ground := Go.Ground.data }], guard := none }) (v := ?_) rfl (by kernel_rfl) (by kernel_rfl) (by kernel_rfl) (by kernel_rfl) (fun _ _ _ h => h) (Or.inl ⟨by rfl, (by intro w hSw; (try dsimp only at hSw); go_simp; try with_reducible rfl)⟩) (by assumption) ?_
  (try simp only [Act.put, List.setIfInBounds_toArray, List.set_cons_zero, List.set_cons_succ])
  refine wpAnyT_take (i := 8) (oi := { dst := (some 72), op := (Go.Op.move (Go.Operand.tmp 0)), type := 22, pos := "law.go:202", after := #[], guard := none }) (v := ?_) rfl (by kernel_rfl) (by kernel_rfl) (by kernel_rfl) (by kernel_rfl) (fun _ _ _ h => h) (Or.inl ⟨by rfl, (by intro w hSw; (try dsimp only at hSw); go_simp; try with_reducible rfl)⟩) (by assumption) ?_
  (try simp only [Act.put, List.setIfInBounds_toArray, List.set_cons_zero, List.set_cons_succ])
  refine wpAnyT_take (i := 9) (oi := { dst := (some 73), op := (Go.Op.move (Go.Operand.tmp 14)), type := 3, pos := "law.go:202", after := #[], guard := none }) (v := ?_) rfl (by kernel_rfl) (by kernel_rfl) (by kernel_rfl) (by kernel_rfl) (fun _ _ _ h => h) (Or.inl ⟨by rfl, (by intro w hSw; (try dsimp only at hSw); go_simp; try with_reducible rfl)⟩) (by assumption) ?_
  (try simp only [Act.put, List.setIfInBounds_toArray, List.set_cons_zero, List.set_cons_succ])
  refine wpAnyT_take (i := 10) (oi := { dst := (some 74), op := (Go.Op.indexAddr 22 (Go.Operand.tmp 72) (Go.Operand.tmp 73)), type := 0, pos := "law.go:202", after := #[{ on := 8, ground := Go.Ground.data }, { on := 9, ground := Go.Ground.data }], guard := none }) (v := ?_) rfl (by kernel_rfl) (by kernel_rfl) (by kernel_rfl) (by kernel_rfl) (fun _ _ _ h => h) (Or.inl ⟨by rfl, (by intro w hSw; (try dsimp only at hSw); go_simp; try with_reducible rfl)⟩) (by assumption) ?_
  (try simp only [Act.put, List.setIfInBounds_toArray, List.set_cons_zero, List.set_cons_succ])
  refine wpAnyT_take (i := 11) (oi := { dst := (some 75), op := (Go.Op.fieldAddr 40 (Go.Operand.tmp 74) 2), type := 0, pos := "law.go:202", after := #[{ on := 10, ground := Go.Ground.data }], guard := none }) (v := ?_) rfl (by kernel_rfl) (by kernel_rfl) (by kernel_rfl) (by kernel_rfl) (fun _ _ _ h => h) (Or.inl ⟨by rfl, (by intro w hSw; (try dsimp only at hSw); go_simp; try with_reducible rfl)⟩) (by assumption) ?_
  (try simp only [Act.put, List.setIfInBounds_toArray, List.set_cons_zero, List.set_cons_succ])
  refine wpAnyT_take (i := 12) (oi := { dst := (some 76), op := (Go.Op.load 3 (Go.Operand.tmp 75)), type := 3, pos := "law.go:202", after := #[{ on := 11, ground := Go.Ground.data }], guard := none }) (v := ?_) rfl (by kernel_rfl) (by kernel_rfl) (by kernel_rfl) (by kernel_rfl) (fun _ _ _ h => h) (Or.inl ⟨by rfl, (by intro w hSw; (try dsimp only at hSw); go_simp; try with_reducible rfl)⟩) (by assumption) ?_
  (try simp only [Act.put, List.setIfInBounds_toArray, List.set_cons_zero, List.set_cons_succ])
  refine wpAnyT_two (i := 13) (j := 17) (o1 := { dst := (some 77), op := (Go.Op.call { callee := (Go.Callee.value (Go.Operand.func 19)), args := #[(Go.Operand.tmp 64), (Go.Operand.tmp 65), (Go.Operand.tmp 66), (Go.Operand.tmp 71), (Go.Operand.tmp 76)], argTypes := #[24, 22, 3, 3, 3] }), type := 29, pos := "law.go:202", after := #[{ on := 0, ground := Go.Ground.data }, { on := 1, ground := Go.Ground.data }, { on := 2, ground := Go.Ground.data }, { on := 7, ground := Go.Ground.data }, { on := 12, ground := Go.Ground.data }], guard := none }) (o2 := { dst := (some 15), op := (Go.Op.alloc 27), type := 0, pos := "law.go:202", after := #[], guard := none }) (by kernel_rfl) rfl rfl (fun K hK => ?rw1a) (fun K hK => ?rw1b)
  case' rw1a =>
    go_simp
    first | (go_at_call 19; with_reducible refine (HB.out w4.drew cb1 B3 HS4d.out HR4d.out).mono ?_; rintro r w5 ⟨⟨B5, c5, rfl, hrow, hc5⟩, hu⟩; have HU5 := As.mk (HU4.out.drew.trans hu (fun _ _ h => h)); have HX5 := As.mk (Rp.row_pure HR4.out ((Upd.refl _ _).drew.trans hu (fun _ _ h => h))); have HR5 := As.mk hrow; have HC5 := As.mk hc5; clear hu hrow hc5) | (go_at_call 19; refine (HB.out _ cb1 B3 (HS4.out.pure ((Upd.refl _ _).alloc _).drew) (Rp.row_pure HR4.out ((Upd.refl _ _).alloc _).drew)).mono ?_; rintro r w5 ⟨⟨B5, c5, rfl, hrow, hc5⟩, hu⟩; obtain ⟨hb5, hu5⟩ := one_up ((Upd.refl (fun _ => False) (w4.alloc _)).drew.trans hu (fun _ _ h => h)); have HB5 := As.mk hb5; have hbl5 : w4.heap.size < w5.heap.size := (Array.getElem?_eq_some_iff.1 hb5).1; have hcf5 : ∀ i, w5.frozen? ⟨w4.heap.size, i, none⟩ = false := (fun i => by simp [World.frozen?, HB5.out]); obtain ⟨k0, k1, k2, k3, k4, k5, k6, k7⟩ := cells8 hb5; have HU5 := As.mk (HU4.out.trans hu5 (fun _ _ h => h)); have HX5 := As.mk (Rp.row_pure HRX4.out hu5); have HR5 := As.mk hrow; have HC5 := As.mk hc5; clear hu hu5 hb5 hrow hc5)
    refine hK.out _ _ (fun _ => by with_reducible (first | exact HK8.out _ HU4.out.drew | exact HK8.out _ HU5.out | exact HK8.out _ (HU5.out.alloc _) | exact HK8.out _ (HU4.out.alloc _).drew | exact HK8.out _ (set8_pure HU5.out (Nat.le_trans HU4.out.size (Nat.le_refl _)) _ _ _ _ _ _ _ _))) (fun hHeld => ?_)
    replace hHeld := hHeld (by decide)
    clear hK K
    (try simp only [Act.put, List.setIfInBounds_toArray, List.set_cons_zero, List.set_cons_succ])
    refine wpAnyT_take (i := 14) (oi := { dst := (some 63), op := (Go.Op.move (Go.Operand.tmp 77)), type := 29, pos := "law.go:202", after := #[{ on := 13, ground := Go.Ground.data }], guard := none }) (v := ?_) rfl (by kernel_rfl) (by kernel_rfl) (by kernel_rfl) (by kernel_rfl) (fun _ _ _ h => h) (Or.inl ⟨by rfl, (by intro w hSw; (try dsimp only at hSw); go_simp; try with_reducible rfl)⟩) (by assumption) ?_
    (try simp only [Act.put, List.setIfInBounds_toArray, List.set_cons_zero, List.set_cons_succ])
    refine wpAnyT_take (i := 15) (oi := { dst := (some 78), op := (Go.Op.extract (Go.Operand.tmp 63) 0), type := 27, pos := "law.go:202", after := #[{ on := 14, ground := Go.Ground.data }], guard := none }) (v := ?_) rfl (by kernel_rfl) (by kernel_rfl) (by kernel_rfl) (by kernel_rfl) (fun _ _ _ h => h) (Or.inl ⟨by rfl, (by intro w hSw; (try dsimp only at hSw); go_simp; try with_reducible rfl)⟩) (by assumption) ?_
    (try simp only [Act.put, List.setIfInBounds_toArray, List.set_cons_zero, List.set_cons_succ])
    refine wpAnyT_take (i := 16) (oi := { dst := (some 79), op := (Go.Op.extract (Go.Operand.tmp 63) 1), type := 28, pos := "law.go:202", after := #[{ on := 14, ground := Go.Ground.data }, { on := 18, ground := (Go.Ground.gcOnly Go.Departure.lateStores) }], guard := none }) (v := ?_) rfl (by kernel_rfl) (by kernel_rfl) (by kernel_rfl) (by kernel_rfl) (fun _ _ _ h => h) (Or.inl ⟨by rfl, (by intro w hSw; (try dsimp only at hSw); go_simp; try with_reducible rfl)⟩) (by assumption) ?_
    (try simp only [Act.put, List.setIfInBounds_toArray, List.set_cons_zero, List.set_cons_succ])
    refine wpAnyT_one (i := 17) (o := { dst := (some 15), op := (Go.Op.alloc 27), type := 0, pos := "law.go:202", after := #[], guard := none }) (by kernel_rfl) rfl (fun K hK => ?_)
    go_simp
    refine hK.out _ _ (fun _ => by with_reducible (first | exact HK8.out _ HU4.out.drew | exact HK8.out _ HU5.out | exact HK8.out _ (HU5.out.alloc _) | exact HK8.out _ (HU4.out.alloc _).drew | exact HK8.out _ (set8_pure HU5.out (Nat.le_trans HU4.out.size (Nat.le_refl _)) _ _ _ _ _ _ _ _))) (fun hHeld => ?_)
    replace hHeld := hHeld (by decide)
    clear hK K
    (try simp only [Act.put, List.setIfInBounds_toArray, List.set_cons_zero, List.set_cons_succ])
    refine wpAnyT_one (i := 18) (o := { dst := none, op := (Go.Op.store 27 (Go.Operand.tmp 15) (Go.Operand.tmp 78)), type := 0, pos := "law.go:202", after := #[{ on := 17, ground := Go.Ground.data }, { on := 15, ground := Go.Ground.data }, { on := 13, ground := Go.Ground.chain }, { on := 0, ground := Go.Ground.phase }, { on := 1, ground := Go.Ground.phase }, { on := 2, ground := Go.Ground.phase }, { on := 3, ground := Go.Ground.phase }, { on := 4, ground := Go.Ground.phase }, { on := 5, ground := Go.Ground.phase }, { on := 6, ground := Go.Ground.phase }, { on := 7, ground := Go.Ground.phase }, { on := 8, ground := Go.Ground.phase }, { on := 9, ground := Go.Ground.phase }, { on := 10, ground := Go.Ground.phase }, { on := 11, ground := Go.Ground.phase }, { on := 12, ground := Go.Ground.phase }, { on := 13, ground := Go.Ground.phase }, { on := 14, ground := Go.Ground.phase }, { on := 15, ground := Go.Ground.phase }, { on := 16, ground := (Go.Ground.textOnly Go.Departure.lateStores) }, { on := 17, ground := Go.Ground.phase }], guard := none }) (by kernel_rfl) rfl (fun K hK => ?_)
    go_simp
    refine hK.out _ _ (fun _ => by with_reducible (first | exact HK8.out _ HU4.out.drew | exact HK8.out _ HU5.out | exact HK8.out _ (HU5.out.alloc _) | exact HK8.out _ (HU4.out.alloc _).drew | exact HK8.out _ (set8_pure HU5.out (Nat.le_trans HU4.out.size (Nat.le_refl _)) _ _ _ _ _ _ _ _))) (fun hHeld => ?_)
    replace hHeld := hHeld (by decide)
    clear hK K
    (try simp only [Act.put, List.setIfInBounds_toArray, List.set_cons_zero, List.set_cons_succ])
    refine wpAnyT_one (i := 19) (o := { dst := (some 16), op := (Go.Op.assign (Go.Operand.tmp 79)), type := 28, pos := "law.go:202", after := #[{ on := 16, ground := Go.Ground.data }, { on := 18, ground := Go.Ground.chain }, { on := 0, ground := Go.Ground.phase }, { on := 1, ground := Go.Ground.phase }, { on := 2, ground := Go.Ground.phase }, { on := 3, ground := Go.Ground.phase }, { on := 4, ground := Go.Ground.phase }, { on := 5, ground := Go.Ground.phase }, { on := 6, ground := Go.Ground.phase }, { on := 7, ground := Go.Ground.phase }, { on := 8, ground := Go.Ground.phase }, { on := 9, ground := Go.Ground.phase }, { on := 10, ground := Go.Ground.phase }, { on := 11, ground := Go.Ground.phase }, { on := 12, ground := Go.Ground.phase }, { on := 13, ground := Go.Ground.phase }, { on := 14, ground := Go.Ground.phase }, { on := 15, ground := Go.Ground.phase }, { on := 16, ground := Go.Ground.phase }, { on := 17, ground := Go.Ground.phase }, { on := 18, ground := Go.Ground.phase }], guard := none }) (by kernel_rfl) rfl (fun K hK => ?_)
    go_simp
    refine hK.out _ _ (fun h => absurd rfl h) (fun hHeld => ?_)
    clear hK K
    (try simp only [Act.put, List.setIfInBounds_toArray, List.set_cons_zero, List.set_cons_succ])
    refine wpAnyT_done (by kernel_rfl) ?_ _
  case' rw1b =>
    go_simp
    refine hK.out _ _ (fun _ => by with_reducible (first | exact HK8.out _ HU4.out.drew | exact HK8.out _ HU5.out | exact HK8.out _ (HU5.out.alloc _) | exact HK8.out _ (HU4.out.alloc _).drew | exact HK8.out _ (set8_pure HU5.out (Nat.le_trans HU4.out.size (Nat.le_refl _)) _ _ _ _ _ _ _ _))) (fun hHeld => ?_)
    replace hHeld := hHeld (by decide)
    clear hK K
    (try simp only [Act.put, List.setIfInBounds_toArray, List.set_cons_zero, List.set_cons_succ])
    refine wpAnyT_one (i := 13) (o := { dst := (some 77), op := (Go.Op.call { callee := (Go.Callee.value (Go.Operand.func 19)), args := #[(Go.Operand.tmp 64), (Go.Operand.tmp 65), (Go.Operand.tmp 66), (Go.Operand.tmp 71), (Go.Operand.tmp 76)], argTypes := #[24, 22, 3, 3, 3] }), type := 29, pos := "law.go:202", after := #[{ on := 0, ground := Go.Ground.data }, { on := 1, ground := Go.Ground.data }, { on := 2, ground := Go.Ground.data }, { on := 7, ground := Go.Ground.data }, { on := 12, ground := Go.Ground.data }], guard := none }) (by kernel_rfl) rfl (fun K hK => ?_)
    go_simp
    first | (go_at_call 19; with_reducible refine (HB.out w4.drew cb1 B3 HS4d.out HR4d.out).mono ?_; rintro r w5 ⟨⟨B5, c5, rfl, hrow, hc5⟩, hu⟩; have HU5 := As.mk (HU4.out.drew.trans hu (fun _ _ h => h)); have HX5 := As.mk (Rp.row_pure HR4.out ((Upd.refl _ _).drew.trans hu (fun _ _ h => h))); have HR5 := As.mk hrow; have HC5 := As.mk hc5; clear hu hrow hc5) | (go_at_call 19; refine (HB.out _ cb1 B3 (HS4.out.pure ((Upd.refl _ _).alloc _).drew) (Rp.row_pure HR4.out ((Upd.refl _ _).alloc _).drew)).mono ?_; rintro r w5 ⟨⟨B5, c5, rfl, hrow, hc5⟩, hu⟩; obtain ⟨hb5, hu5⟩ := one_up ((Upd.refl (fun _ => False) (w4.alloc _)).drew.trans hu (fun _ _ h => h)); have HB5 := As.mk hb5; have hbl5 : w4.heap.size < w5.heap.size := (Array.getElem?_eq_some_iff.1 hb5).1; have hcf5 : ∀ i, w5.frozen? ⟨w4.heap.size, i, none⟩ = false := (fun i => by simp [World.frozen?, HB5.out]); obtain ⟨k0, k1, k2, k3, k4, k5, k6, k7⟩ := cells8 hb5; have HU5 := As.mk (HU4.out.trans hu5 (fun _ _ h => h)); have HX5 := As.mk (Rp.row_pure HRX4.out hu5); have HR5 := As.mk hrow; have HC5 := As.mk hc5; clear hu hu5 hb5 hrow hc5)
    refine hK.out _ _ (fun _ => by with_reducible (first | exact HK8.out _ HU4.out.drew | exact HK8.out _ HU5.out | exact HK8.out _ (HU5.out.alloc _) | exact HK8.out _ (HU4.out.alloc _).drew | exact HK8.out _ (set8_pure HU5.out (Nat.le_trans HU4.out.size (Nat.le_refl _)) _ _ _ _ _ _ _ _))) (fun hHeld => ?_)
    replace hHeld := hHeld (by decide)
    clear hK K
    (try simp only [Act.put, List.setIfInBounds_toArray, List.set_cons_zero, List.set_cons_succ])
    refine wpAnyT_take (i := 14) (oi := { dst := (some 63), op := (Go.Op.move (Go.Operand.tmp 77)), type := 29, pos := "law.go:202", after := #[{ on := 13, ground := Go.Ground.data }], guard := none }) (v := ?_) rfl (by kernel_rfl) (by kernel_rfl) (by kernel_rfl) (by kernel_rfl) (fun _ _ _ h => h) (Or.inl ⟨by rfl, (by intro w hSw; (try dsimp only at hSw); go_simp; try with_reducible rfl)⟩) (by assumption) ?_
    (try simp only [Act.put, List.setIfInBounds_toArray, List.set_cons_zero, List.set_cons_succ])
    refine wpAnyT_take (i := 15) (oi := { dst := (some 78), op := (Go.Op.extract (Go.Operand.tmp 63) 0), type := 27, pos := "law.go:202", after := #[{ on := 14, ground := Go.Ground.data }], guard := none }) (v := ?_) rfl (by kernel_rfl) (by kernel_rfl) (by kernel_rfl) (by kernel_rfl) (fun _ _ _ h => h) (Or.inl ⟨by rfl, (by intro w hSw; (try dsimp only at hSw); go_simp; try with_reducible rfl)⟩) (by assumption) ?_
    (try simp only [Act.put, List.setIfInBounds_toArray, List.set_cons_zero, List.set_cons_succ])
    refine wpAnyT_take (i := 16) (oi := { dst := (some 79), op := (Go.Op.extract (Go.Operand.tmp 63) 1), type := 28, pos := "law.go:202", after := #[{ on := 14, ground := Go.Ground.data }, { on := 18, ground := (Go.Ground.gcOnly Go.Departure.lateStores) }], guard := none }) (v := ?_) rfl (by kernel_rfl) (by kernel_rfl) (by kernel_rfl) (by kernel_rfl) (fun _ _ _ h => h) (Or.inl ⟨by rfl, (by intro w hSw; (try dsimp only at hSw); go_simp; try with_reducible rfl)⟩) (by assumption) ?_
    (try simp only [Act.put, List.setIfInBounds_toArray, List.set_cons_zero, List.set_cons_succ])
    refine wpAnyT_one (i := 18) (o := { dst := none, op := (Go.Op.store 27 (Go.Operand.tmp 15) (Go.Operand.tmp 78)), type := 0, pos := "law.go:202", after := #[{ on := 17, ground := Go.Ground.data }, { on := 15, ground := Go.Ground.data }, { on := 13, ground := Go.Ground.chain }, { on := 0, ground := Go.Ground.phase }, { on := 1, ground := Go.Ground.phase }, { on := 2, ground := Go.Ground.phase }, { on := 3, ground := Go.Ground.phase }, { on := 4, ground := Go.Ground.phase }, { on := 5, ground := Go.Ground.phase }, { on := 6, ground := Go.Ground.phase }, { on := 7, ground := Go.Ground.phase }, { on := 8, ground := Go.Ground.phase }, { on := 9, ground := Go.Ground.phase }, { on := 10, ground := Go.Ground.phase }, { on := 11, ground := Go.Ground.phase }, { on := 12, ground := Go.Ground.phase }, { on := 13, ground := Go.Ground.phase }, { on := 14, ground := Go.Ground.phase }, { on := 15, ground := Go.Ground.phase }, { on := 16, ground := (Go.Ground.textOnly Go.Departure.lateStores) }, { on := 17, ground := Go.Ground.phase }], guard := none }) (by kernel_rfl) rfl (fun K hK => ?_)
    go_simp
    refine hK.out _ _ (fun _ => by with_reducible (first | exact HK8.out _ HU4.out.drew | exact HK8.out _ HU5.out | exact HK8.out _ (HU5.out.alloc _) | exact HK8.out _ (HU4.out.alloc _).drew | exact HK8.out _ (set8_pure HU5.out (Nat.le_trans HU4.out.size (Nat.le_refl _)) _ _ _ _ _ _ _ _))) (fun hHeld => ?_)
    replace hHeld := hHeld (by decide)
    clear hK K
    (try simp only [Act.put, List.setIfInBounds_toArray, List.set_cons_zero, List.set_cons_succ])
    refine wpAnyT_one (i := 19) (o := { dst := (some 16), op := (Go.Op.assign (Go.Operand.tmp 79)), type := 28, pos := "law.go:202", after := #[{ on := 16, ground := Go.Ground.data }, { on := 18, ground := Go.Ground.chain }, { on := 0, ground := Go.Ground.phase }, { on := 1, ground := Go.Ground.phase }, { on := 2, ground := Go.Ground.phase }, { on := 3, ground := Go.Ground.phase }, { on := 4, ground := Go.Ground.phase }, { on := 5, ground := Go.Ground.phase }, { on := 6, ground := Go.Ground.phase }, { on := 7, ground := Go.Ground.phase }, { on := 8, ground := Go.Ground.phase }, { on := 9, ground := Go.Ground.phase }, { on := 10, ground := Go.Ground.phase }, { on := 11, ground := Go.Ground.phase }, { on := 12, ground := Go.Ground.phase }, { on := 13, ground := Go.Ground.phase }, { on := 14, ground := Go.Ground.phase }, { on := 15, ground := Go.Ground.phase }, { on := 16, ground := Go.Ground.phase }, { on := 17, ground := Go.Ground.phase }, { on := 18, ground := Go.Ground.phase }], guard := none }) (by kernel_rfl) rfl (fun K hK => ?_)
    go_simp
    refine hK.out _ _ (fun h => absurd rfl h) (fun hHeld => ?_)
    clear hK K
    (try simp only [Act.put, List.setIfInBounds_toArray, List.set_cons_zero, List.set_cons_succ])
    refine wpAnyT_done (by kernel_rfl) ?_ _
  rotate_left
  · have HB9 := As.mk (heap_alloc_new w5 (.cells #[.int .i64 0, .int .i64 (i : Nat), .int .i64 ((i : Nat) + 1), .int .i64 0, .int .i64 0, .int .i64 0, .slice B5 1 c5, .int .i64 0] 27))
    have HU9 := As.mk (HU5.out.alloc (.cells #[.int .i64 0, .int .i64 (i : Nat), .int .i64 ((i : Nat) + 1), .int .i64 0, .int .i64 0, .int .i64 0, .slice B5 1 c5, .int .i64 0] 27))
    have HX9 := As.mk (Rp.row_pure HX5.out (Upd.alloc1 _ _ (.cells #[.int .i64 0, .int .i64 (i : Nat), .int .i64 ((i : Nat) + 1), .int .i64 0, .int .i64 0, .int .i64 0, .slice B5 1 c5, .int .i64 0] 27)))
    have HR9 := As.mk (Rp.row_pure HR5.out (Upd.alloc1 _ _ (.cells #[.int .i64 0, .int .i64 (i : Nat), .int .i64 ((i : Nat) + 1), .int .i64 0, .int .i64 0, .int .i64 0, .slice B5 1 c5, .int .i64 0] 27)))
    clear hHeld
    iterate 6 (try clear hHeld)
    generalize w5.alloc (.cells #[.int .i64 0, .int .i64 (i : Nat), .int .i64 ((i : Nat) + 1), .int .i64 0, .int .i64 0, .int .i64 0, .slice B5 1 c5, .int .i64 0] 27) = v9 at *
    generalize w5.heap.size = rb at *
    have hbl9 : rb < v9.heap.size := lt_of_block HB9.out
    have hcf9 : ∀ i, v9.frozen? ⟨rb, i, none⟩ = false := fun i => by simp [World.frozen?, HB9.out]
    obtain ⟨k0, k1, k2, k3, k4, k5, k6, k7⟩ := cells8 HB9.out
    go_wp2_with (first | (at_builtin; refine Rp.append_row tokR (c := c) (own_empty w6) (Rp.row'_of (Rp.row_pure HRL.out (HU6.out.alloc _)) (fun _ _ h => h)) (Fz := fun _ => False) (fun _ h => h.elim) rfl _ _ 22 _ 32 rfl Tryz.underlying22 tok_info rfl (by decide) (by decide) rfl rfl (by have := HLE.out; simp only [List.length_nil]; omega) ?_; intro v1 w7 ho1 hu1 hat; simp only [List.nil_append] at ho1; have HO1 := As.mk ho1; have HG1 := As.mk hu1; have HAT := As.mk hat; clear ho1 hu1 hat; apply As.out) | (go_at_call 16; refine (HA2.out v9 B3 B5 c5 HX9.out HR9.out HC5.out).mono ?_; rintro r w6 ⟨⟨B6, rfl, hrow⟩, hu⟩; have HU6 := As.mk (HU9.out.trans hu (fun _ _ h => h)); have HR6 := As.mk (row_lt hrow); have HX6 := As.mk (row_lt (Rp.row_pure HX9.out hu)); clear hu hrow))
    refine ⟨?_⟩
    obtain ⟨A1, k9, rfl, hk9, hrow9⟩ := Rp.own_slice HO1.out
    obtain ⟨g, cur, rfl, hg⟩ := own_open HO1.out HNE.out
    have HGE := As.mk (show w6.heap.size ≤ g by
      rcases HAT.out with h | ⟨b, h, h2⟩
      · simp [Value.ownBlock] at h
        omega
      · simp [Value.ownBlock] at h h2
        omega)
    have HP7 := As.mk (show Pure w6 w7 from Upd.trans (Upd.alloc1 (fun _ => False) w6 _) HG1.out (fun k hk h => by simp [Value.ownBlock] at h; omega))
    have HU7 := As.mk (HU6.out.trans HP7.out (fun _ _ h => h))
    have HR7 := As.mk (Rp.row_pure HR6.out HP7.out)
    have HX7 := As.mk (Rp.row_pure HX6.out HP7.out)
    have HW7 := As.mk (Rp.row_fp (G := fun _ => True) hrow9 (fun _ _ => trivial))
    have HG7 := As.mk (show w.heap.size ≤ g from Nat.le_trans HU6.out.size HGE.out)
    have hbg : g < w7.heap.size := lt_of_block hg
    have hcg : ∀ i, w7.frozen? ⟨g, i, none⟩ = false := fun i => by simp [World.frozen?, hg]
    obtain ⟨bq, oq, hAq, _, _, z0, z1, z2, z3⟩ := tok_at HW7.out HYL.out
    cases hAq
    simp only [Nat.zero_add] at z0 z1 z2 z3
    have ik9 : i < k9 := by omega
    clear HO1 HG1 HAT hrow9 hg k0 k1 k2 k3 k4 k5 k6 k7 hbl9 hcf9
    go_wp2_with (first | (go_at_call 12; refine (HAW.out _).mono ?_; rintro r w10 ⟨rfl, hu⟩; have HU10 := As.mk (HU99.out.trans hu (fun _ _ h => h)); clear hu) | (go_at_call 18; first | (with_reducible refine (HL2.out w8 B6 HR8.out (Rp.row_fp (Rp.row_pure HRL.out HU8.out) (fun _ _ => trivial))).mono ?_; rintro r w99 ⟨rfl, hu⟩; have HU99 := As.mk (HU8.out.trans hu (fun _ _ h => h)); clear hu) | (refine (HL1.out _ B3 ⟨g, 0, none⟩ k9 (Rp.row_fp (Rp.row_upd HX7.out (set4_upd (Upd.refl _ _) _ _ _ _) (fun k _ h e => by have h9 := HGE.out; omega)) (fun _ _ => trivial)) (row_set (openT t n) HW7.out HYL.out (by simp))).mono ?_; rintro r w8 ⟨rfl, hu⟩; have HU8 := As.mk ((set4_pure HU7.out HG7.out _ _ _ _).trans hu (fun _ _ h => h)); have HR8 := As.mk (Rp.row_fp (G := fun _ => True) (Rp.row_pure (Rp.row_upd HR7.out (set4_upd (Upd.refl _ _) _ _ _ _) (fun k _ h e => by have h9 := HGE.out; omega)) hu) (fun _ _ => trivial)); clear hu)))
    go_ret
    exact ⟨rfl, HU10.out⟩
  · have hup := set8_upd (Upd.refl (fun k => k = w4.heap.size) w5) (.int .i64 0) (.int .i64 (i : Nat)) (.int .i64 ((i : Nat) + 1)) (.int .i64 0) (.int .i64 0) (.int .i64 0) (.slice B5 1 c5) (.int .i64 0)
    have HB9 := As.mk (set8 HB5.out (.int .i64 0) (.int .i64 (i : Nat)) (.int .i64 ((i : Nat) + 1)) (.int .i64 0) (.int .i64 0) (.int .i64 0) (.slice B5 1 c5) (.int .i64 0))
    have HU9 := As.mk (set8_pure HU5.out HU4.out.size (.int .i64 0) (.int .i64 (i : Nat)) (.int .i64 ((i : Nat) + 1)) (.int .i64 0) (.int .i64 0) (.int .i64 0) (.slice B5 1 c5) (.int .i64 0))
    have HX9 := As.mk (Rp.row_fp (G := fun _ => True) (Rp.row_upd HX5.out hup (fun k _ h e => by omega)) (fun _ _ => trivial))
    have HR9 := As.mk (Rp.row_fp (G := fun _ => True) (Rp.row_upd (row_off HB5.out HR5.out HYK.out) hup (fun k _ h e => h e)) (fun _ _ => trivial))
    clear hup k0 k1 k2 k3 k4 k5 k6 k7 hbl5 hcf5 hHeld HB5
    iterate 6 (try clear hHeld)
    generalize ((((((((w5.setCell ⟨w4.heap.size, 0, none⟩ (.int .i64 0)).setCell ⟨w4.heap.size, 1, none⟩ (.int .i64 (i : Nat))).setCell ⟨w4.heap.size, 2, none⟩ (.int .i64 ((i : Nat) + 1))).setCell ⟨w4.heap.size, 3, none⟩ (.int .i64 0)).setCell ⟨w4.heap.size, 4, none⟩ (.int .i64 0)).setCell ⟨w4.heap.size, 5, none⟩ (.int .i64 0)).setCell ⟨w4.heap.size, 6, none⟩ (.slice B5 1 c5)).setCell ⟨w4.heap.size, 7, none⟩ (.int .i64 0)) = v9 at *
    generalize w4.heap.size = rb at *
    have hbl9 : rb < v9.heap.size := lt_of_block HB9.out
    have hcf9 : ∀ i, v9.frozen? ⟨rb, i, none⟩ = false := fun i => by simp [World.frozen?, HB9.out]
    obtain ⟨k0, k1, k2, k3, k4, k5, k6, k7⟩ := cells8 HB9.out
    go_wp2_with (first | (at_builtin; refine Rp.append_row tokR (c := c) (own_empty w6) (Rp.row'_of (Rp.row_pure HRL.out (HU6.out.alloc _)) (fun _ _ h => h)) (Fz := fun _ => False) (fun _ h => h.elim) rfl _ _ 22 _ 32 rfl Tryz.underlying22 tok_info rfl (by decide) (by decide) rfl rfl (by have := HLE.out; simp only [List.length_nil]; omega) ?_; intro v1 w7 ho1 hu1 hat; simp only [List.nil_append] at ho1; have HO1 := As.mk ho1; have HG1 := As.mk hu1; have HAT := As.mk hat; clear ho1 hu1 hat; apply As.out) | (go_at_call 16; refine (HA2.out v9 B3 B5 c5 HX9.out HR9.out HC5.out).mono ?_; rintro r w6 ⟨⟨B6, rfl, hrow⟩, hu⟩; have HU6 := As.mk (HU9.out.trans hu (fun _ _ h => h)); have HR6 := As.mk (row_lt hrow); have HX6 := As.mk (row_lt (Rp.row_pure HX9.out hu)); clear hu hrow))
    refine ⟨?_⟩
    obtain ⟨A1, k9, rfl, hk9, hrow9⟩ := Rp.own_slice HO1.out
    obtain ⟨g, cur, rfl, hg⟩ := own_open HO1.out HNE.out
    have HGE := As.mk (show w6.heap.size ≤ g by
      rcases HAT.out with h | ⟨b, h, h2⟩
      · simp [Value.ownBlock] at h
        omega
      · simp [Value.ownBlock] at h h2
        omega)
    have HP7 := As.mk (show Pure w6 w7 from Upd.trans (Upd.alloc1 (fun _ => False) w6 _) HG1.out (fun k hk h => by simp [Value.ownBlock] at h; omega))
    have HU7 := As.mk (HU6.out.trans HP7.out (fun _ _ h => h))
    have HR7 := As.mk (Rp.row_pure HR6.out HP7.out)
    have HX7 := As.mk (Rp.row_pure HX6.out HP7.out)
    have HW7 := As.mk (Rp.row_fp (G := fun _ => True) hrow9 (fun _ _ => trivial))
    have HG7 := As.mk (show w.heap.size ≤ g from Nat.le_trans HU6.out.size HGE.out)
    have hbg : g < w7.heap.size := lt_of_block hg
    have hcg : ∀ i, w7.frozen? ⟨g, i, none⟩ = false := fun i => by simp [World.frozen?, hg]
    obtain ⟨bq, oq, hAq, _, _, z0, z1, z2, z3⟩ := tok_at HW7.out HYL.out
    cases hAq
    simp only [Nat.zero_add] at z0 z1 z2 z3
    have ik9 : i < k9 := by omega
    clear HO1 HG1 HAT hrow9 hg k0 k1 k2 k3 k4 k5 k6 k7 hbl9 hcf9
    go_wp2_with (first | (go_at_call 12; refine (HAW.out _).mono ?_; rintro r w10 ⟨rfl, hu⟩; have HU10 := As.mk (HU99.out.trans hu (fun _ _ h => h)); clear hu) | (go_at_call 18; first | (with_reducible refine (HL2.out w8 B6 HR8.out (Rp.row_fp (Rp.row_pure HRL.out HU8.out) (fun _ _ => trivial))).mono ?_; rintro r w99 ⟨rfl, hu⟩; have HU99 := As.mk (HU8.out.trans hu (fun _ _ h => h)); clear hu) | (refine (HL1.out _ B3 ⟨g, 0, none⟩ k9 (Rp.row_fp (Rp.row_upd HX7.out (set4_upd (Upd.refl _ _) _ _ _ _) (fun k _ h e => by have h9 := HGE.out; omega)) (fun _ _ => trivial)) (row_set (openT t n) HW7.out HYL.out (by simp))).mono ?_; rintro r w8 ⟨rfl, hu⟩; have HU8 := As.mk ((set4_pure HU7.out HG7.out _ _ _ _).trans hu (fun _ _ h => h)); have HR8 := As.mk (Rp.row_fp (G := fun _ => True) (Rp.row_pure (Rp.row_upd HR7.out (set4_upd (Upd.refl _ _) _ _ _ _) (fun k _ h e => by have h9 := HGE.out; omega)) hu) (fun _ _ => trivial)); clear hu)))
    go_ret
    exact ⟨rfl, HU10.out⟩
set_option maxRecDepth 100000 in
set_option maxHeartbeats 4000000 in
theorem Retypes_far {w : World} {A : Option Addr} {c : Nat} {l : List Tok} {p t n : Int} (h1 : 200 < l.length) :
    Calls Tryz.prog 4 #[.slice A l.length c, .int .i64 p, .int .i64 t, .int .i64 n] w (fun r w' => r = .returned (.bool true) ∧ Pure w w') := by
  have HAW := As.mk (fun W => awake12_calls W)
  have i1 : (200 : Int) < (l.length : Int) := by omega
  clear h1
  go_enter Tryz.func4, Tryz.ntmps4
  go_wp2_with (go_at_call 12; refine (HAW.out _).mono ?_; rintro r w1 ⟨rfl, hu⟩; have HU1 := As.mk hu; clear hu)
  go_ret
  exact ⟨rfl, HU1.out⟩
theorem Retypes_walk {w : World} {F : Nat → Prop} {A : Option Addr} {c : Nat} {l : List Tok} {p t n : Int} (hr : tokR.row w F A l) (hlc : l.length ≤ c) (hb : l.length ≤ 1048576 * 4) :
    Calls Tryz.prog 4 #[.slice A l.length c, .int .i64 p, .int .i64 t, .int .i64 n] w (fun r w' => r = .returned (.bool true) ∧ Pure w w') := by
  by_cases h1 : 200 < l.length
  · exact Retypes_far h1
  · by_cases h0 : retErr l p t n = 0
    · exact Retypes_ok hr hlc hb h0 (by omega)
    · exact Retypes_no hr hlc hb h0
end Go.Proofs.YteeindicpbcjaaaGreatDoor
