/- FitValid: the law's walk. -/
import Derived.Test.YteeindicpbcjaaaGreatDoorFitF
import Derived.Test.YteeindicpbcjaaaGreatDoorAlikeF
namespace Go.Proofs.YteeindicpbcjaaaGreatDoor
open Go.RowKit
set_option linter.unusedVariables false
set_option linter.unusedSimpArgs false

set_option maxRecDepth 100000 in
set_option maxHeartbeats 4000000 in
theorem twin13_zero (w : World) : Calls Tryz.prog 33 #[step0, step0] w fun r w' => r = .returned (.bool true) ∧ Pure w w' := by
  have HA := As.mk (fun (W : World) => Alike13_same (c := 0) (c' := 0) (A := none) (B := none) (F := fun _ => True) (G := fun _ => True) (l := []) (w := W) (.inl rfl) (.inl rfl) (by simp))
  go_enter Tryz.func33, Tryz.ntmps33
  go_wp2_with (go_at_call 35; refine (HA.out _).mono ?_; rintro r w1 ⟨rfl, hu⟩; have HU1 := As.mk ((((Upd.refl _ w).alloc _).alloc _).trans hu (fun _ _ h => h)); clear hu)
  go_ret
  exact ⟨rfl, HU1.out⟩
set_option maxRecDepth 100000 in
set_option maxHeartbeats 4000000 in
theorem awake13_calls (w : World) : Calls Tryz.prog 31 #[] w fun e w' => e = .returned (.bool true) ∧ Pure w w' := by
  have hrow : tokR.row (w.alloc (.cells #[.int .i64 1, .int .i64 1, .int .i64 0, .int .i64 0] 40)) (fun _ => True) (some ⟨w.heap.size, 0, none⟩) [⟨1, 1, 0, 0⟩] :=
    Rp.row_of_block (heap_alloc_new w _) trivial (Reps.single rfl rfl)
  have HR := As.mk hrow
  clear hrow
  go_enter Tryz.func31, Tryz.ntmps31
  go_wp2_with (go_at_call 58; refine (Closed_calls HR.out (by simp)).mono ?_; rintro e w1 ⟨v, rfl, ho, hu⟩; obtain ⟨A, c, rfl, _, _⟩ := Rp.own_slice ho; have HU := As.mk hu; clear ho hu)
  go_ret
  exact ⟨rfl, (Upd.alloc1 _ _ _).trans HU.out (fun _ _ h => h)⟩
abbrev replW (f t : Int) (B : Option Addr) (n c : Nat) : Value := .agg #[.int .i64 0, .int .i64 f, .int .i64 t, .int .i64 0, .int .i64 0, .int .i64 0, .slice B n c, .int .i64 0]
theorem Fit_calls {w : World} {F G : Nat → Prop} {cb : Nat} {A T : Option Addr} {c ct : Nat} {l sl : List Tok} {f t : Int} (h : SchR w cb houseRules houseGroups) (hr : tokR.row w F A l) (hlc : l.length ≤ c) (h1 : l.length ≤ 200) (hx : tokR.row w G T sl) (hct : sl.length ≤ ct) (hxb : sl.length ≤ 1000) :
    Calls Tryz.prog 32 #[.pointer (some ⟨cb, 0, none⟩), .slice A l.length c, .int .i64 f, .int .i64 t, .slice T sl.length ct] w (FitR w l f t sl) := by
  by_cases he : fmayErr l f t sl = 0
  · obtain ⟨_, q0, q1, _⟩ := fmay_zero.1 he
    obtain ⟨f, rfl⟩ := Int.eq_ofNat_of_zero_le q0
    obtain ⟨t, rfl⟩ := Int.eq_ofNat_of_zero_le (Int.le_trans q0 q1)
    exact Fit_go h hr hlc h1 hx hct hxb he
  · exact Fit_no (fun W hu => fmay_calls (h.pure hu) (Rp.row_pure hr hu) (by omega) (Rp.row_pure hx hu) (by omega)) he
set_option maxRecDepth 100000 in
set_option maxHeartbeats 4000000 in
theorem FitValid_far {w : World} {A T : Option Addr} {c ct : Nat} {l sl : List Tok} {f t : Int} (hf : 200 < l.length ∨ 200 < sl.length) :
    Calls Tryz.prog 10 #[.slice A l.length c, .int .i64 f, .int .i64 t, .slice T sl.length ct] w (fun r w' => r = .returned (.bool true) ∧ Pure w w') := by
  have HAW := As.mk (fun W => awake13_calls W)
  by_cases h1 : 200 < l.length
  · have i1 : (200 : Int) < (l.length : Int) := by omega
    clear hf h1
    go_enter Tryz.func10, Tryz.ntmps10
    go_wp2_with (go_at_call 31; refine (HAW.out _).mono ?_; rintro r w1 ⟨rfl, hu⟩; have HU1 := As.mk hu; clear hu)
    go_ret
    exact ⟨rfl, HU1.out⟩
  · have i1 : ¬ (200 : Int) < (l.length : Int) := by omega
    have i2 : (200 : Int) < (sl.length : Int) := by omega
    clear hf h1
    go_enter Tryz.func10, Tryz.ntmps10
    go_wp2_with (go_at_call 31; refine (HAW.out _).mono ?_; rintro r w1 ⟨rfl, hu⟩; have HU1 := As.mk hu; clear hu)
    go_ret
    exact ⟨rfl, HU1.out⟩
set_option maxRecDepth 100000 in
set_option maxHeartbeats 4000000 in
theorem FitValid_walk {w : World} {F G : Nat → Prop} {A T : Option Addr} {c ct : Nat} {l sl : List Tok} {f t : Int} (hr : tokR.row w F A l) (hlc : l.length ≤ c) (hx : tokR.row w G T sl) (hct : sl.length ≤ ct) :
    Calls Tryz.prog 10 #[.slice A l.length c, .int .i64 f, .int .i64 t, .slice T sl.length ct] w (fun r w' => r = .returned (.bool true) ∧ Pure w w') := by
  by_cases hf : 200 < l.length ∨ 200 < sl.length
  · exact FitValid_far hf
  have HH := As.mk (fun W => House_calls W)
  have HAW := As.mk (fun W => awake13_calls W)
  have HTW := As.mk (fun W => twin13_zero W)
  have h1 : l.length ≤ 200 := by omega
  have h2 : sl.length ≤ 200 := by omega
  have i1 : ¬ (200 : Int) < (l.length : Int) := by omega
  have i2 : ¬ (200 : Int) < (sl.length : Int) := by omega
  have HI := As.mk (fun W cb (hu : Pure w W) hs => Fit_calls (f := f) (t := t) (cb := cb) hs (Rp.row_pure hr hu) hlc h1 (Rp.row_pure hx hu) hct (by omega))
  have HR := As.mk hr
  have HX := As.mk hx
  have HLC := As.mk (And.intro hlc hct)
  unfold FitR at HI
  clear hr hx hf
  go_enter Tryz.func10, Tryz.ntmps10
  go_wp2_with (first | (go_at_call 32; refine (HI.out _ _ HU1.out HS1.out).mono ?_; rintro r w2 ⟨s, B, c', n, e, rfl, hu, hrow, hcs, hbs, hz, h0, _⟩; have HU2 := As.mk (HU1.out.trans hu (fun _ _ h => h)); have HS2 := As.mk (HS1.out.pure hu); have HR2 := As.mk hrow; have HX2 := As.mk (And.intro hcs hbs); have HZ2 := As.mk hz; have H02 := As.mk h0; clear hu hrow hcs hbs hz h0; apply As.out) | (go_at_call 13; refine (HH.out _).mono ?_; rintro r w1 ⟨cb1, rfl, hs, hu⟩; have HS1 := As.mk hs; have HU1 := As.mk hu; clear hu hs))
  refine ⟨?_⟩
  by_cases he : e = 0
  · subst he
    obtain ⟨hl, hre, ⟨xs, rfl⟩, hn1, hn4, hiff, _⟩ := H02.out rfl
    have hne := house_ne hl
    simp only [show (repl f t xs).k = 0 from rfl, show (repl f t xs).fr = f from rfl, show (repl f t xs).tt = t from rfl, show (repl f t xs).gf = 0 from rfl, show (repl f t xs).gt = 0 from rfl, show (repl f t xs).ins = 0 from rfl, show (repl f t xs).mark = 0 from rfl, show (repl f t xs).sl = xs from rfl]
    have HR2' := As.mk (show tokR.row w2 (fun k => w1.heap.size ≤ k) B xs from HR2.out)
    have HX2' := As.mk (show xs.length ≤ c' ∧ xs.length ≤ 100000 from HX2.out)
    obtain ⟨x, hX⟩ : ∃ x, stepDo l (repl f t xs) = x := ⟨_, rfl⟩
    have hx0 : (houseCheck x).2 = 0 := by rw [← hX]; exact (remap_zero.1 hre).2.2.2
    have hxl := house_len_le hx0
    have HA := As.mk (fun W (hu : Pure w2 W) => (by
      have := Apply_repl (f := f) (t := t) hne (Rp.row_pure (Rp.row_pure HR.out HU2.out) hu) HLC.out.1 (by omega) (Rp.row_pure HR2'.out hu) HX2'.out.1 (by have := HX2'.out.2; omega)
      rw [(remap_step hre).1, hX] at this
      exact this.mono fun r w' h => DocR.zero h : Calls Tryz.prog 16 #[.slice A l.length c, replW f t B xs.length c'] W (fun r w' => (∃ B', r = .returned (.tuple #[.slice (some B') x.length x.length, .int .i64 0]) ∧ tokR.row w' (fun k => W.heap.size ≤ k) (some B') x) ∧ Pure W w')))
    have HC := As.mk (fun W (B9 : Addr) (hs : SchR W cb1 houseRules houseGroups) (hrow : tokR.row W (fun _ => True) (some B9) x) => house_check (c := x.length) hs hrow (by omega))
    rw [hx0] at HC
    have g1 : decide (n ≥ 1) = true := by simpa using hn1
    have g2 : decide (n ≤ 4) = true := by simpa using hn4
    have HSE := As.mk (show stepErr l (repl f t sl) = 0 → (houseCheck (stepDo l (repl f t sl))).2 = remapErr l (repl f t sl) by
      intro h9
      unfold remapErr
      rw [if_neg (by omega)])
    have HSN := As.mk (show stepErr l (repl f t sl) ≠ 0 → remapErr l (repl f t sl) ≠ 0 by
      intro h9
      unfold remapErr
      rw [if_pos h9]
      exact h9)
    have HA2 := As.mk (fun W (hu : Pure w2 W) => Apply_repl (f := f) (t := t) hne (Rp.row_pure (Rp.row_pure HR.out HU2.out) hu) HLC.out.1 (by omega) (Rp.row_pure (Rp.row_pure HX.out HU2.out) hu) HLC.out.2 (by omega))
    obtain ⟨y, hY⟩ : ∃ y, stepDo l (repl f t sl) = y := ⟨_, rfl⟩
    obtain ⟨re, hRE⟩ : ∃ re, remapErr l (repl f t sl) = re := ⟨_, rfl⟩
    rw [hY] at HA2 HSE
    rw [hRE] at HSE HSN hiff
    have hyl : stepErr l (repl f t sl) = 0 → y.length ≤ 2048 := fun h9 => by rw [← hY]; exact flat_len (step_err_zero.1 h9).2.2.2
    generalize (houseCheck x).1 = e1 at *
    by_cases hse : stepErr l (repl f t sl) = 0
    · rw [hse] at HA2
      have hye := HSE.out hse
      have hyl' := hyl hse
      have HC2 := As.mk (fun W (B9 : Addr) (hs : SchR W cb1 houseRules houseGroups) (hrow : tokR.row W (fun _ => True) (some B9) y) => house_check (c := y.length) hs hrow (by omega))
      rw [hye] at HC2
      generalize (houseCheck y).1 = e2 at *
      have HYX := As.mk (show x.length = x.length from rfl)
      by_cases hr0 : re = 0
      · have g3 : (n == 1) = true := by simpa using hiff.2 hr0
        rw [hr0] at HC2
        clear hre hl hX hx0 hxl HZ2 H02 HX2 HR2 hiff hn1 hn4 hse hye hyl hyl' hY hRE HSE HSN hne
        go_wp2_with (first | (go_at_call 31; refine (HAW.out _).mono ?_; rintro r w7 ⟨rfl, hu⟩; have HU7 := As.mk (HU6.out.trans hu (fun _ _ h => h)); clear hu) | (go_at_call 30; with_reducible refine (HC2.out _ _ HS5.out HR5.out).mono ?_; rintro r w6 ⟨rfl, hu⟩; have HU6 := As.mk (HU5.out.trans hu (fun _ _ h => h)); have HSB6 := As.mk ((hu.block _ (lt_of_block HSB5.out) (fun h => h)).trans HSB5.out); obtain ⟨o0, o1, o2, o3, o4, o5, o6, o7⟩ := cells8 HSB6.out; clear hu) | (go_at_call 16; refine (HA2.out _ HP4.out).mono ?_; rintro r w5 hd; obtain ⟨⟨B5, rfl, hrow⟩, hu⟩ := DocR.zero hd; have HU5 := As.mk (HU4.out.trans hu (fun _ _ h => h)); have HS5 := As.mk (HS4.out.pure hu); have HR5 := As.mk (Rp.row_fp (G := fun _ => True) hrow (fun _ _ => trivial)); have HSB5 := As.mk ((hu.block _ (lt_of_block HSB4.out) (fun h => h)).trans HSB4.out); clear hd hu hrow) | (go_at_call 30; with_reducible refine (HC.out _ _ HS3.out HR3.out).mono ?_; rintro r w4 ⟨rfl, hu⟩; have HU4 := As.mk (HU3.out.trans hu (fun _ _ h => h)); have HP4 := As.mk (HP3.out.trans hu (fun _ _ h => h)); have HS4 := As.mk (HS3.out.pure hu); have HSB4 := As.mk ((hu.block _ (lt_of_block HSB3.out) (fun h => h)).trans HSB3.out); clear hu) | (go_at_call 16; refine (HA.out _ (Upd.alloc1 _ _ _)).mono ?_; rintro r w3 ⟨⟨B3, rfl, hrow⟩, hu⟩; obtain ⟨hsb, hu3⟩ := one_up hu; have HSB3 := As.mk hsb; have HP3 := As.mk hu3; have HU3 := As.mk (HU2.out.trans hu3 (fun _ _ h => h)); have HS3 := As.mk (HS2.out.pure hu3); have HR3 := As.mk (Rp.row_fp (G := fun _ => True) hrow (fun _ _ => trivial)); clear hu hu3 hsb hrow))
        go_ret
        exact ⟨rfl, HU7.out⟩
      · have g3 : (n == 1) = false := by
          simp only [beq_eq_false_iff_ne, ne_eq]
          exact fun h9 => hr0 (hiff.1 h9)
        have g4 : (re == 0) = false := by simpa using hr0
        clear hre hl hX hx0 hxl HZ2 H02 HX2 HR2 hiff hn1 hn4 hse hye hyl hyl' hY hRE HSE HSN hne hr0
        go_wp2_with (first | (go_at_call 31; refine (HAW.out _).mono ?_; rintro r w7 ⟨rfl, hu⟩; have HU7 := As.mk (HU6.out.trans hu (fun _ _ h => h)); clear hu) | (go_at_call 30; with_reducible refine (HC2.out _ _ HS5.out HR5.out).mono ?_; rintro r w6 ⟨rfl, hu⟩; have HU6 := As.mk (HU5.out.trans hu (fun _ _ h => h)); have HSB6 := As.mk ((hu.block _ (lt_of_block HSB5.out) (fun h => h)).trans HSB5.out); obtain ⟨o0, o1, o2, o3, o4, o5, o6, o7⟩ := cells8 HSB6.out; clear hu) | (go_at_call 16; refine (HA2.out _ HP4.out).mono ?_; rintro r w5 hd; obtain ⟨⟨B5, rfl, hrow⟩, hu⟩ := DocR.zero hd; have HU5 := As.mk (HU4.out.trans hu (fun _ _ h => h)); have HS5 := As.mk (HS4.out.pure hu); have HR5 := As.mk (Rp.row_fp (G := fun _ => True) hrow (fun _ _ => trivial)); have HSB5 := As.mk ((hu.block _ (lt_of_block HSB4.out) (fun h => h)).trans HSB4.out); clear hd hu hrow) | (go_at_call 30; with_reducible refine (HC.out _ _ HS3.out HR3.out).mono ?_; rintro r w4 ⟨rfl, hu⟩; have HU4 := As.mk (HU3.out.trans hu (fun _ _ h => h)); have HP4 := As.mk (HP3.out.trans hu (fun _ _ h => h)); have HS4 := As.mk (HS3.out.pure hu); have HSB4 := As.mk ((hu.block _ (lt_of_block HSB3.out) (fun h => h)).trans HSB3.out); clear hu) | (go_at_call 16; refine (HA.out _ (Upd.alloc1 _ _ _)).mono ?_; rintro r w3 ⟨⟨B3, rfl, hrow⟩, hu⟩; obtain ⟨hsb, hu3⟩ := one_up hu; have HSB3 := As.mk hsb; have HP3 := As.mk hu3; have HU3 := As.mk (HU2.out.trans hu3 (fun _ _ h => h)); have HS3 := As.mk (HS2.out.pure hu3); have HR3 := As.mk (Rp.row_fp (G := fun _ => True) hrow (fun _ _ => trivial)); clear hu hu3 hsb hrow))
        go_ret
        exact ⟨rfl, HU7.out⟩
    · have g3 : (n == 1) = false := by
        simp only [beq_eq_false_iff_ne, ne_eq]
        exact fun h9 => HSN.out hse (hiff.1 h9)
      have g4 : (stepErr l (repl f t sl) == 0) = false := by simpa using hse
      have HSE2 := As.mk hse
      have HC2 := As.mk (show ∀ W, SchR W cb1 houseRules houseGroups → Calls Tryz.prog 30 #[.pointer (some ⟨cb1, 0, none⟩), .slice none 0 0] W fun e w' => e = .returned (.tuple #[.int .i64 (houseCheck []).1, .int .i64 (houseCheck []).2]) ∧ Pure W w' from fun W hs => house_check (c := 0) (A := none) (F := fun _ => True) (l := []) hs (.inl rfl) (by simp))
      generalize (houseCheck []).1 = e2 at *
      generalize (houseCheck []).2 = e3 at *
      generalize stepErr l (repl f t sl) = se at *
      clear hre hl hX hx0 hxl HZ2 H02 HX2 HR2 hiff hn1 hn4 hse hyl hY hRE HSE HSN hne
      go_wp2_with (first | (go_at_call 31; refine (HAW.out _).mono ?_; rintro r w7 ⟨rfl, hu⟩; have HU7 := As.mk (HU6.out.trans hu (fun _ _ h => h)); clear hu) | (go_at_call 30; with_reducible refine (HC2.out _ HS5.out).mono ?_; rintro r w6 ⟨rfl, hu⟩; have HU6 := As.mk (HU5.out.trans hu (fun _ _ h => h)); have HSB6 := As.mk ((hu.block _ (lt_of_block HSB5.out) (fun h => h)).trans HSB5.out); obtain ⟨o0, o1, o2, o3, o4, o5, o6, o7⟩ := cells8 HSB6.out; clear hu) | (go_at_call 16; refine (HA2.out _ HP4.out).mono ?_; rintro r w5 hd; obtain ⟨rfl, hu⟩ := DocR.ne hd HSE2.out; have HU5 := As.mk (HU4.out.trans hu (fun _ _ h => h)); have HS5 := As.mk (HS4.out.pure hu); have HSB5 := As.mk ((hu.block _ (lt_of_block HSB4.out) (fun h => h)).trans HSB4.out); clear hd hu) | (go_at_call 30; with_reducible refine (HC.out _ _ HS3.out HR3.out).mono ?_; rintro r w4 ⟨rfl, hu⟩; have HU4 := As.mk (HU3.out.trans hu (fun _ _ h => h)); have HP4 := As.mk (HP3.out.trans hu (fun _ _ h => h)); have HS4 := As.mk (HS3.out.pure hu); have HSB4 := As.mk ((hu.block _ (lt_of_block HSB3.out) (fun h => h)).trans HSB3.out); clear hu) | (go_at_call 16; refine (HA.out _ (Upd.alloc1 _ _ _)).mono ?_; rintro r w3 ⟨⟨B3, rfl, hrow⟩, hu⟩; obtain ⟨hsb, hu3⟩ := one_up hu; have HSB3 := As.mk hsb; have HP3 := As.mk hu3; have HU3 := As.mk (HU2.out.trans hu3 (fun _ _ h => h)); have HS3 := As.mk (HS2.out.pure hu3); have HR3 := As.mk (Rp.row_fp (G := fun _ => True) hrow (fun _ _ => trivial)); clear hu hu3 hsb hrow))
      go_ret
      exact ⟨rfl, HU7.out⟩
  · obtain ⟨rfl, rfl, rfl, rfl⟩ := HZ2.out he
    have f0 : (e != 0) = true := by simpa using he
    clear he HZ2 H02 HX2 HR2
    go_wp2_with (first | (go_at_call 31; refine (HAW.out _).mono ?_; rintro r w4 ⟨rfl, hu⟩; have HU4 := As.mk (HU3.out.trans hu (fun _ _ h => h)); clear hu) | (go_at_call 33; refine (HTW.out _).mono ?_; rintro r w3 ⟨rfl, hu⟩; have HU3 := As.mk ((HU2.out.alloc _).trans hu (fun _ _ h => h)); clear hu))
    go_ret
    exact ⟨rfl, HU4.out⟩
end Go.Proofs.YteeindicpbcjaaaGreatDoor
