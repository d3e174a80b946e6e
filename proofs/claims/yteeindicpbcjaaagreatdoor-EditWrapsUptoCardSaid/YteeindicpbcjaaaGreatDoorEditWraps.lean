/- EditWraps: the law's walk. -/
import Derived.Test.YteeindicpbcjaaaGreatDoorEdW
import Derived.Test.YteeindicpbcjaaaGreatDoorEdLc
namespace Go.Proofs.YteeindicpbcjaaaGreatDoor
open Go.RowKit
set_option linter.unusedVariables false
set_option linter.unusedSimpArgs false

abbrev arndV (a b g h ins : Int) (B : Option Addr) (n c : Nat) : Value := .agg #[.int .i64 1, .int .i64 a, .int .i64 b, .int .i64 g, .int .i64 h, .int .i64 ins, .slice B n c, .int .i64 0]
theorem Apply_arnd {w : World} {F G : Nat → Prop} {A B : Option Addr} {c cb : Nat} {l sl x : List Tok} {a b g h ins : Int} (hne : l ≠ []) (hr : tokR.row w F A l) (hlc : l.length ≤ c) (hb : l.length ≤ 1048576 * 4) (hs : tokR.row w G B sl) (hsc : sl.length ≤ cb) (hsb : sl.length ≤ 1048576 * 4) (hz : sl = [] → B = none ∧ cb = 0) (h0 : remapErr l (arnd a b g h ins sl) = 0) (hx : stepDo l (arnd a b g h ins sl) = x) :
    Calls Tryz.prog 16 #[.slice A l.length c, arndV a b g h ins B sl.length cb] w (fun r w' => (∃ B1, r = .returned (.tuple #[.slice (some B1) x.length x.length, .int .i64 0]) ∧ tokR.row w' (fun _ => True) (some B1) x) ∧ Pure w w') := by
  obtain ⟨r1, r2, r3, _⟩ := remap_zero.1 h0
  have h1 := Apply_doc (s := arnd a b g h ins sl) (cs := cb) hr hb hs hsb (doc_arnd hne hr hlc hs hsc hz r1 r2 r3) h0
  rw [hx] at h1
  exact h1.mono fun r w' ⟨⟨B1, h2, h3⟩, h4⟩ => ⟨⟨B1, h2, Rp.row_fp h3 (fun _ _ => trivial)⟩, h4⟩
abbrev quoteT : Tok := openT 3 0
theorem Wrap_ok {w : World} {F G : Nat → Prop} {cb : Nat} {A T : Option Addr} {c ct : Nat} {l : List Tok} {f t : Int} (h : SchR w cb houseRules houseGroups) (hr : tokR.row w F A l) (hlc : l.length ≤ c) (hb : l.length ≤ 1048576 * 4) (hx : tokR.row w G T [quoteT]) (h0 : wrapErr l f t [quoteT] = 0) :
    Calls Tryz.prog 24 #[.pointer (some ⟨cb, 0, none⟩), .slice A l.length c, .int .i64 f, .int .i64 t, .slice T 1 ct] w (fun r w' => (∃ B' c', r = .returned (.tuple #[arndV f t f t 1 B' 2 c', .int .i64 0]) ∧ tokR.row w' (fun _ => True) B' [quoteT, shutT] ∧ 2 ≤ c') ∧ Pure w w') := by
  have h1 := Wrap_calls (f := f) (t := t) (ct := ct) h hr hlc hb hx (by simp) (by simp) (by simp)
  rw [h0] at h1
  exact h1.mono fun r w' ⟨B', c', ⟨h2, h3⟩, ⟨h4, h5⟩, _⟩ => ⟨⟨B', c', h2, h4, h5⟩, h3⟩
theorem Wrap_no {w : World} {F G : Nat → Prop} {cb : Nat} {A T : Option Addr} {c ct : Nat} {l : List Tok} {f t : Int} (h : SchR w cb houseRules houseGroups) (hr : tokR.row w F A l) (hlc : l.length ≤ c) (hb : l.length ≤ 1048576 * 4) (hx : tokR.row w G T [quoteT]) (h0 : wrapErr l f t [quoteT] ≠ 0) :
    Calls Tryz.prog 24 #[.pointer (some ⟨cb, 0, none⟩), .slice A l.length c, .int .i64 f, .int .i64 t, .slice T 1 ct] w (fun r w' => r = .returned (.tuple #[step0, .int .i64 (wrapErr l f t [quoteT])]) ∧ Pure w w') := by
  refine (Wrap_calls (f := f) (t := t) (ct := ct) h hr hlc hb hx (by simp) (by simp) (by simp)).mono ?_
  rintro r w' ⟨B', c', ⟨rfl, h3⟩, _, h6⟩
  obtain ⟨rfl, rfl⟩ := h6 h0
  rw [toldS_refused h0]
  exact ⟨rfl, h3⟩
theorem Lift_ok {w : World} {F : Nat → Prop} {cb : Nat} {A : Option Addr} {c : Nat} {l : List Tok} {p a b g h' : Int} (h : SchR w cb houseRules houseGroups) (hr : tokR.row w F A l) (hlc : l.length ≤ c) (hb : l.length ≤ 1048576 * 4) (h0 : liftErr l p = 0) (hs : liftSt l p = arnd a b g h' 0 []) :
    Calls Tryz.prog 25 #[.pointer (some ⟨cb, 0, none⟩), .slice A l.length c, .int .i64 p] w (fun r w' => r = .returned (.tuple #[arndV a b g h' 0 none 0 0, .int .i64 0]) ∧ Pure w w') := by
  have h1 := Lift_calls (p := p) h hr hlc hb
  rw [h0, hs] at h1
  refine h1.mono ?_
  rintro r w' ⟨B', c', ⟨rfl, h3⟩, ⟨_, _, hz⟩, _⟩
  obtain ⟨rfl, rfl⟩ := hz rfl
  exact ⟨rfl, h3⟩
set_option maxRecDepth 100000 in
set_option maxHeartbeats 4000000 in
theorem Wraps_far {w : World} {F : Nat → Prop} {A : Option Addr} {c : Nat} {l : List Tok} {p : Int} (hr : tokR.row w F A l) (hf : 200 < l.length ∨ p < 0 ∨ (l.length : Int) ≤ p ∨ ∃ (i : Nat) (y : Tok), p = (i : Int) ∧ l[i]? = some y ∧ y.k ≠ 1) :
    Calls Tryz.prog 6 #[.slice A l.length c, .int .i64 p] w (fun r w' => r = .returned (.bool true) ∧ Pure w w') := by
  have HAW := As.mk (fun W => awake12_calls W)
  by_cases h1 : 200 < l.length
  · have i1 : (200 : Int) < (l.length : Int) := by omega
    clear h1 hr hf
    go_enter Tryz.func6, Tryz.ntmps6
    go_wp2_with (go_at_call 12; refine (HAW.out _).mono ?_; rintro r w1 ⟨rfl, hu⟩; have HU1 := As.mk hu; clear hu)
    go_ret
    exact ⟨rfl, HU1.out⟩
  · have i1 : ¬ (200 : Int) < (l.length : Int) := by omega
    by_cases h2 : p < 0
    · clear hf hr
      go_enter Tryz.func6, Tryz.ntmps6
      go_wp2_with (go_at_call 12; refine (HAW.out _).mono ?_; rintro r w1 ⟨rfl, hu⟩; have HU1 := As.mk hu; clear hu)
      go_ret
      exact ⟨rfl, HU1.out⟩
    · by_cases h3 : (l.length : Int) ≤ p
      · clear hf hr
        go_enter Tryz.func6, Tryz.ntmps6
        go_wp2_with (go_at_call 12; refine (HAW.out _).mono ?_; rintro r w1 ⟨rfl, hu⟩; have HU1 := As.mk hu; clear hu)
        go_ret
        exact ⟨rfl, HU1.out⟩
      · obtain ⟨i, y, rfl, hy, hk⟩ : ∃ (i : Nat) (y : Tok), p = (i : Int) ∧ l[i]? = some y ∧ y.k ≠ 1 := by
          rcases hf with h | h | h | h
          · exact absurd h h1
          · exact absurd h h2
          · exact absurd h h3
          · exact h
        have il : i < l.length := (List.getElem?_eq_some_iff.1 hy).1
        obtain ⟨bA, oA, rfl, hF, hbA, c0, c1, c2, c3⟩ := tok_at hr hy
        have e1 : (y.k != 1) = true := by simpa using hk
        have t2 : decide ((i : Int) < 0) = false := by simp
        have t3 : decide ((i : Int) ≥ (l.length : Int)) = false := by simp; omega
        have t4 : decide ((l.length : Int) ≤ (i : Int)) = false := by simp; omega
        have t6 : decide (l.length ≤ i) = false := by simp; omega
        clear hr hy hk h2 h3 hF
        go_enter Tryz.func6, Tryz.ntmps6
        go_wp2_with (go_at_call 12; refine (HAW.out _).mono ?_; rintro r w1 ⟨rfl, hu⟩; have HU1 := As.mk hu; clear hu)
        go_ret
        exact ⟨rfl, HU1.out⟩
set_option maxRecDepth 100000 in
set_option maxHeartbeats 4000000 in
theorem Wraps_walk {w : World} {F : Nat → Prop} {A : Option Addr} {c : Nat} {l : List Tok} {p : Int} (hr : tokR.row w F A l) (hlc : l.length ≤ c) (hb : l.length ≤ 1048576 * 4) :
    Calls Tryz.prog 6 #[.slice A l.length c, .int .i64 p] w (fun r w' => r = .returned (.bool true) ∧ Pure w w') := by
  by_cases hf : 200 < l.length ∨ p < 0 ∨ (l.length : Int) ≤ p ∨ ∃ (i : Nat) (y : Tok), p = (i : Int) ∧ l[i]? = some y ∧ y.k ≠ 1
  · exact Wraps_far hr hf
  have h1 : ¬ 200 < l.length := fun h => hf (.inl h)
  obtain ⟨p, rfl⟩ := Int.eq_ofNat_of_zero_le (show 0 ≤ p by by_cases h : p < 0; exact absurd (.inr (.inl h)) hf; omega)
  have il : p < l.length := by
    by_cases h : (l.length : Int) ≤ (p : Int)
    · exact absurd (.inr (.inr (.inl h))) hf
    · omega
  obtain ⟨y, hy⟩ : ∃ y, l[p]? = some y := ⟨_, List.getElem?_eq_getElem il⟩
  have hyk : y.k = 1 := by
    by_cases h : y.k = 1
    · exact h
    · exact absurd (.inr (.inr (.inr ⟨p, y, rfl, hy, h⟩))) hf
  clear hf
  have HH := As.mk (fun W => House_calls W)
  have HAW := As.mk (fun W => awake12_calls W)
  have HTW := As.mk (fun W => twin_zero W)
  have HPT := As.mk (fun W (hu : Pure w W) => Partner_open (c := c) (Rp.row_pure hr hu) hb hlc hy hyk)
  have hpb := part_bound (l := l) (i := p) (by omega)
  have i1 : ¬ (200 : Int) < (l.length : Int) := by omega
  have t2 : decide ((p : Int) < 0) = false := by simp
  have t3 : decide ((p : Int) ≥ (l.length : Int)) = false := by simp; omega
  have t4 : decide ((l.length : Int) ≤ (p : Int)) = false := by simp; omega
  have t6 : decide (l.length ≤ p) = false := by simp; omega
  have hw1 : IntKind.i64.wrap (partL l p + 1) = partL l p + 1 := IntWalk.i64_in _ (by omega)
  by_cases h0 : wrapErr l p (partL l p + 1) [quoteT] = 0
  · obtain ⟨hl, _, hlt, _, hre⟩ := wrap_zero.1 h0
    obtain ⟨k, hk1, hk2, hk3, _⟩ := part_some (l := l) (i := p) rfl (by omega)
    have HI := As.mk (fun W cb T (hu : Pure w W) hs (hx : tokR.row W (fun _ => True) T [quoteT]) => Wrap_ok (ct := 1) (cb := cb) hs (Rp.row_pure hr hu) hlc hb hx h0)
    rw [show wrapSl [quoteT] = [quoteT, shutT] from rfl] at hre
    have hre' := hre
    rw [hk1] at hre'
    obtain ⟨x, hX⟩ : ∃ x, x = stepDo l (arnd p (p + k + 1) p (p + k + 1) 1 [quoteT, shutT]) := ⟨_, rfl⟩
    obtain ⟨d1, d2, d3, d4, d5, d6, d7, d8, d9, d10, d11⟩ := wraps_plain quoteT rfl hl hy hyk hk2 hX hre'
    have hne := house_ne hl
    have hne2 := house_ne d1
    have hst : liftSt x ((p : Int) + 2) = arnd p (p + k + 3) (p + 1) (p + k + 2) 0 [] := by
      unfold liftSt
      rw [d6, show ((p : Int) + 1).toNat = p + 1 by omega, d7, show ((p : Int)).toNat = p by omega]
      unfold liftS
      rw [if_pos (by omega), if_pos (by rw [d8, d9]; omega), if_pos (by omega), if_pos (by omega), if_pos (by rw [d8, d9]; omega), d8, d9, show ((p : Int) + k + 2 + 1) = (p : Int) + k + 3 by omega, show ((p : Int) + k + 1 + 1) = (p : Int) + k + 2 by omega, show (((p + 1 : Nat) : Int)) = (p : Int) + 1 by omega]
      rfl
    have hle : liftErr x ((p : Int) + 2) = 0 := lift_zero.2 ⟨d1, by omega, by omega, by rw [d6]; omega, by rw [d6, d7]; omega, by rw [hst]; exact d10⟩
    have HA1 := As.mk (fun W (hu : Pure w W) B cs (hrow : tokR.row W (fun _ => True) B [quoteT, shutT]) (hcs : 2 ≤ cs) => Apply_arnd (sl := [quoteT, shutT]) hne (Rp.row_pure hr hu) hlc hb hrow hcs (by simp) (fun h => absurd h (by simp)) hre' hX.symm)
    rw [← hk1] at HA1
    have HLF := As.mk (fun W cb (B : Addr) (hs : SchR W cb houseRules houseGroups) (hrow : tokR.row W (fun _ => True) (some B) x) => Lift_ok hs hrow (Nat.le_refl _) (by omega) hle hst)
    have HA2 := As.mk (fun W (B : Addr) (hrow : tokR.row W (fun _ => True) (some B) x) => Apply_arnd (G := fun _ => True) (B := none) (cb := 0) (sl := []) hne2 hrow (Nat.le_refl _) (by omega) (.inl rfl) (Nat.le_refl _) (by simp) (fun _ => ⟨rfl, rfl⟩) d10 d11)
    have HL := As.mk (fun W (B : Addr) (hu : Pure w W) (hrow : tokR.row W (fun _ => True) (some B) l) => Alike_same (c := l.length) (c' := c) hrow (Rp.row_pure hr hu) hb)
    have hw2 : IntKind.i64.wrap ((p : Int) + 2) = (p : Int) + 2 := IntWalk.i64_in _ (by omega)
    have hw3 : IntKind.i64.wrap ((l.length : Int) + 2) = (l.length : Int) + 2 := IntWalk.i64_in _ (by omega)
    have hN : ((x.length : Nat) : Int) = (l.length : Int) + 2 := by omega
    obtain ⟨bA, oA, rfl, hF, hbA, c0, c1, c2, c3⟩ := tok_at hr hy
    rw [hyk] at c0
    clear hr d1 d2 d3 d4 d5 d6 d7 d8 d9 d10 d11 hre hre' hne hne2 hX hl h0 h1 hy hyk hst hle hF hk1 hk2 hk3 hlt
    generalize partL l p = pl at *
    go_enter Tryz.func6, Tryz.ntmps6
    go_wp2_with (first | (go_at_call 12; refine (HAW.out _).mono ?_; rintro r w9 ⟨rfl, hu⟩; have HU9 := As.mk (HU8.out.trans hu (fun _ _ h => h)); clear hu) | (go_at_call 18; refine (HL.out _ _ HU7.out HR7.out).mono ?_; rintro r w8 ⟨rfl, hu⟩; have HU8 := As.mk (HU7.out.trans hu (fun _ _ h => h)); clear hu) | (go_at_call 25; refine (HLF.out _ _ _ HS4.out HR4.out).mono ?_; rintro r w5 ⟨rfl, hu⟩; have HU5 := As.mk (HU4.out.trans hu (fun _ _ h => h)); have HR5 := As.mk (Rp.row_pure HR4.out hu); clear hu) | (go_at_call 16; first | (refine (HA2.out _ _ (Rp.row_pure HR5.out (Upd.alloc1 _ _ _))).mono ?_; rintro r w7 ⟨⟨B7, rfl, hrow⟩, hu⟩; have HU7 := As.mk ((HU5.out.alloc _).trans hu (fun _ _ h => h)); have HR7 := As.mk hrow; clear hu hrow) | (refine (HA1.out _ (HU3.out.alloc _) _ _ (Rp.row_pure HR3.out (Upd.alloc1 _ _ _)) HC3.out).mono ?_; rintro r w4 ⟨⟨B4, rfl, hrow⟩, hu⟩; have HU4 := As.mk ((HU3.out.alloc _).trans hu (fun _ _ h => h)); have HR4 := As.mk hrow; have HS4 := As.mk (HS3.out.pure ((Upd.alloc1 _ _ _).trans hu (fun _ _ h => h))); clear hu hrow)) | (go_at_call 24; refine (HI.out (w2.alloc _) _ (some ⟨w2.heap.size, 0, none⟩) (HU2.out.alloc _) (HS2.out.pure (Upd.alloc1 _ _ _)) (row_toks (l := [quoteT]) (heap_alloc_new w2 _) trivial)).mono ?_; rintro r w3 ⟨⟨B3, c3, rfl, hrow, hc3⟩, hu⟩; have HU3 := As.mk ((HU2.out.alloc _).trans hu (fun _ _ h => h)); have HR3 := As.mk hrow; have HC3 := As.mk hc3; have HS3 := As.mk (HS2.out.pure ((Upd.alloc1 _ _ _).trans hu (fun _ _ h => h))); clear hu hrow hc3) | (go_at_call 23; refine (HPT.out _ HU1.out).mono ?_; rintro r w2 ⟨rfl, hu⟩; have HU2 := As.mk (HU1.out.trans hu (fun _ _ h => h)); have HS2 := As.mk (HS1.out.pure hu); clear hu) | (go_at_call 13; refine (HH.out w).mono ?_; rintro r w1 ⟨cb1, rfl, hs, hu⟩; have HS1 := As.mk hs; have HU1 := As.mk hu; clear hu hs))
    go_ret
    exact ⟨rfl, HU9.out⟩
  · have HI := As.mk (fun W cb T (hu : Pure w W) hs (hx : tokR.row W (fun _ => True) T [quoteT]) => Wrap_no (ct := 1) (cb := cb) hs (Rp.row_pure hr hu) hlc hb hx h0)
    have f0 : (wrapErr l p (partL l p + 1) [quoteT] != 0) = true := by simpa using h0
    generalize wrapErr l p (partL l p + 1) [quoteT] = e at *
    obtain ⟨bA, oA, rfl, hF, hbA, c0, c1, c2, c3⟩ := tok_at hr hy
    rw [hyk] at c0
    generalize partL l p = pl at *
    clear hr h0 hy hyk hF
    go_enter Tryz.func6, Tryz.ntmps6
    go_wp2_with (first | (go_at_call 12; refine (HAW.out _).mono ?_; rintro r w9 ⟨rfl, hu⟩; have HU9 := As.mk (HU8.out.trans hu (fun _ _ h => h)); clear hu) | (go_at_call 15; refine (HTW.out _).mono ?_; rintro r w8 ⟨rfl, hu⟩; have HU8 := As.mk ((HU3.out.alloc _).trans hu (fun _ _ h => h)); clear hu) | (go_at_call 24; refine (HI.out (w2.alloc _) _ (some ⟨w2.heap.size, 0, none⟩) (HU2.out.alloc _) (HS2.out.pure (Upd.alloc1 _ _ _)) (row_toks (l := [quoteT]) (heap_alloc_new w2 _) trivial)).mono ?_; rintro r w3 ⟨rfl, hu⟩; have HU3 := As.mk ((HU2.out.alloc _).trans hu (fun _ _ h => h)); clear hu) | (go_at_call 23; refine (HPT.out _ HU1.out).mono ?_; rintro r w2 ⟨rfl, hu⟩; have HU2 := As.mk (HU1.out.trans hu (fun _ _ h => h)); have HS2 := As.mk (HS1.out.pure hu); clear hu) | (go_at_call 13; refine (HH.out w).mono ?_; rintro r w1 ⟨cb1, rfl, hs, hu⟩; have HS1 := As.mk hs; have HU1 := As.mk hu; clear hu hs))
    go_ret
    exact ⟨rfl, HU9.out⟩
end Go.Proofs.YteeindicpbcjaaaGreatDoor
