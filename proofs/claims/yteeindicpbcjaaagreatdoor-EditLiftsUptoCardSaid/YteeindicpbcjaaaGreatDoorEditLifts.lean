/- EditLifts: the law's walk. flat.Deep. -/
import Derived.Test.YteeindicpbcjaaaGreatDoorEdLc
import Derived.Test.YteeindicpbcjaaaGreatDoorFlat
namespace Go.Proofs.YteeindicpbcjaaaGreatDoor
open Go.RowKit
set_option linter.unusedVariables false
set_option linter.unusedSimpArgs false

set_option maxRecDepth 100000 in
set_option maxHeartbeats 4000000 in
theorem Deep_calls {F : Nat → Prop} {A : Option Addr} {c : Nat} {l : List Tok} {at' : Int} {w : World} (hr : tokR.row w F A l) (hb : l.length ≤ 1048576 * 4) (hlc : l.length ≤ c) :
    Calls Tryz.prog 28 #[.slice A l.length c, .int .i64 at'] w fun e w' => e = .returned (.int .i64 ((stackL l at').length : Nat)) ∧ Pure w w' := by
  have HC := As.mk (stack_calls (at' := at') hr hb hlc)
  clear hr
  generalize stackL l at' = s at *
  go_enter Tryz.func28, Tryz.ntmps28
  go_wp2_with (go_at_call 45; refine HC.out.mono ?_; rintro e w1 ⟨v, rfl, ho, hu⟩; obtain ⟨A1, c1, rfl, hle, _⟩ := Rp.own_slice ho; have HU := As.mk hu; clear ho hu hle)
  go_ret
  exact ⟨rfl, HU.out⟩
abbrev arndW (a b g h ins : Int) (B : Option Addr) (n c : Nat) : Value := .agg #[.int .i64 1, .int .i64 a, .int .i64 b, .int .i64 g, .int .i64 h, .int .i64 ins, .slice B n c, .int .i64 0]
theorem Lift_told {w : World} {F : Nat → Prop} {cb : Nat} {A : Option Addr} {c : Nat} {l sl x : List Tok} {p a b g h' ins : Int} (h : SchR w cb houseRules houseGroups) (hr : tokR.row w F A l) (hlc : l.length ≤ c) (hb : l.length ≤ 1048576 * 4) (h0 : liftErr l p = 0) (hs : liftSt l p = arnd a b g h' ins sl) :
    Calls Tryz.prog 25 #[.pointer (some ⟨cb, 0, none⟩), .slice A l.length c, .int .i64 p] w (fun r w' => (∃ B' c', r = .returned (.tuple #[arndW a b g h' ins B' sl.length c', .int .i64 0]) ∧ tokR.row w' (fun _ => True) B' sl ∧ sl.length ≤ c' ∧ (sl = [] → B' = none ∧ c' = 0)) ∧ Pure w w') := by
  have h1 := Lift_calls (p := p) h hr hlc hb
  rw [h0, hs] at h1
  refine h1.mono ?_
  rintro r w' ⟨B', c', ⟨rfl, h3⟩, ⟨h4, h5, hz⟩, _⟩
  exact ⟨⟨B', c', rfl, h4, h5, hz⟩, h3⟩
theorem Lift_refused {w : World} {F : Nat → Prop} {cb : Nat} {A : Option Addr} {c : Nat} {l : List Tok} {p : Int} (h : SchR w cb houseRules houseGroups) (hr : tokR.row w F A l) (hlc : l.length ≤ c) (hb : l.length ≤ 1048576 * 4) (h0 : liftErr l p ≠ 0) :
    Calls Tryz.prog 25 #[.pointer (some ⟨cb, 0, none⟩), .slice A l.length c, .int .i64 p] w (fun r w' => r = .returned (.tuple #[step0, .int .i64 (liftErr l p)]) ∧ Pure w w') := by
  refine (Lift_calls (p := p) h hr hlc hb).mono ?_
  rintro r w' ⟨B', c', ⟨rfl, h3⟩, _, h6⟩
  obtain ⟨rfl, rfl⟩ := h6 h0
  rw [toldS_refused h0]
  exact ⟨rfl, h3⟩
theorem Apply_arndW {w : World} {F G : Nat → Prop} {A B : Option Addr} {c cb : Nat} {l sl x : List Tok} {a b g h ins : Int} (hne : l ≠ []) (hr : tokR.row w F A l) (hlc : l.length ≤ c) (hb : l.length ≤ 1048576 * 4) (hs : tokR.row w G B sl) (hsc : sl.length ≤ cb) (hsb : sl.length ≤ 1048576 * 4) (hz : sl = [] → B = none ∧ cb = 0) (h0 : remapErr l (arnd a b g h ins sl) = 0) (hx : stepDo l (arnd a b g h ins sl) = x) :
    Calls Tryz.prog 16 #[.slice A l.length c, arndW a b g h ins B sl.length cb] w (fun r w' => (∃ B1, r = .returned (.tuple #[.slice (some B1) x.length x.length, .int .i64 0]) ∧ tokR.row w' (fun _ => True) (some B1) x) ∧ Pure w w') := by
  obtain ⟨r1, r2, r3, _⟩ := remap_zero.1 h0
  have h1 := Apply_doc (s := arnd a b g h ins sl) (cs := cb) hr hb hs hsb (doc_arnd hne hr hlc hs hsc hz r1 r2 r3) h0
  rw [hx] at h1
  exact h1.mono fun r w' ⟨⟨B1, h2, h3⟩, h4⟩ => ⟨⟨B1, h2, Rp.row_fp h3 (fun _ _ => trivial)⟩, h4⟩
set_option maxRecDepth 100000 in
set_option maxHeartbeats 4000000 in
theorem Lifts_walk {w : World} {F : Nat → Prop} {A : Option Addr} {c : Nat} {l : List Tok} {p : Int} (hr : tokR.row w F A l) (hlc : l.length ≤ c) (hb : l.length ≤ 1048576 * 4) :
    Calls Tryz.prog 8 #[.slice A l.length c, .int .i64 p] w (fun r w' => r = .returned (.bool true) ∧ Pure w w') := by
  have HH := As.mk (fun W => House_calls W)
  have HAW := As.mk (fun W => awake12_calls W)
  have HTW := As.mk (fun W => twin_zero W)
  by_cases h1 : 200 < l.length
  · have i1 : (200 : Int) < (l.length : Int) := by omega
    clear hr
    go_enter Tryz.func8, Tryz.ntmps8
    go_wp2_with (go_at_call 12; refine (HAW.out _).mono ?_; rintro r w1 ⟨rfl, hu⟩; have HU1 := As.mk hu; clear hu)
    go_ret
    exact ⟨rfl, HU1.out⟩
  have i1 : ¬ (200 : Int) < (l.length : Int) := by omega
  by_cases h0 : liftErr l p = 0
  · obtain ⟨hl, p0, p1, ha1, ha2, hre⟩ := lift_zero.1 h0
    obtain ⟨b, q, z, y, e1, e2, e3, e4, e5, e6, e7, e8⟩ := lift_at ha1 ha2
    rw [e8] at hre
    obtain ⟨dest, d1, d2, d3, d4, d5⟩ := lifts_plain e3 e4 e5 e6 e2 hre
    obtain ⟨_, hck, htl, _⟩ := remap_zero.1 hre
    obtain ⟨hsl, hok⟩ := step_check_zero.1 hck
    obtain ⟨a, bb, h', ins, sl, hst⟩ : ∃ a bb h' ins sl, liftS l b q y = arnd a bb b h' ins sl := ⟨_, _, _, _, _, rfl⟩
    rw [hst] at e8 hre d1 d2 d3 d4 d5 hok hsl htl
    obtain ⟨o1, o2, o3, o4, o5, o6, o7, _⟩ := arnd_ok.1 hok
    have d1' : (dest : Int) = a + ins := d1
    have hsl' : sl.length ≤ 2048 := hsl
    have hne := house_ne hl
    obtain ⟨x, hX⟩ : ∃ x, stepDo l (arnd a bb b h' ins sl) = x := ⟨_, rfl⟩
    have hxl : x.length ≤ 2048 := by
      have := house_len_le (remap_zero.1 hre).2.2.2
      rw [hX] at this
      exact this
    rw [hX] at d2 d3 d4 d5
    obtain ⟨dx, hdx⟩ : ∃ dx, (stackL x (dest : Int)).length = dx := ⟨_, rfl⟩
    rw [hdx] at d5
    have hdb : dx ≤ 2048 := by rw [← hdx]; exact Nat.le_trans (stackL_len x _) hxl
    have bl := (List.getElem?_eq_some_iff.1 e3).1
    have hw1 : IntKind.i64.wrap (a + ins) = (dest : Int) := by rw [IntWalk.i64_in _ (by omega)]; omega
    have hw2 : IntKind.i64.wrap ((dest : Int) + (b : Int)) = (dest : Int) + (b : Int) := IntWalk.i64_in _ (by omega)
    have hw3 : IntKind.i64.wrap ((dest : Int) + (b : Int) - (b : Int)) = (dest : Int) := by rw [IntWalk.i64_in _ (by omega)]; omega
    have hw4 : IntKind.i64.wrap (dest : Int) = (dest : Int) := IntWalk.i64_in _ (by omega)
    have hw5 : IntKind.i64.wrap ((dx : Int) + 1 - 1) = (dx : Int) := by rw [IntWalk.i64_in _ (by omega)]; omega
    have hw6 : IntKind.i64.wrap (dx : Int) = (dx : Int) := IntWalk.i64_in _ (by omega)
    have HI := As.mk (fun W cb (hu : Pure w W) hs => Lift_told (x := x) (cb := cb) hs (Rp.row_pure hr hu) hlc hb h0 e8)
    have HA1 := As.mk (fun W (hu : Pure w W) B cs (hrow : tokR.row W (fun _ => True) B sl) (hcs : sl.length ≤ cs) hz => Apply_arndW hne (Rp.row_pure hr hu) hlc hb hrow hcs (by omega) hz hre hX)
    have HAR := As.mk (fun W (hu : Pure w W) => (by
      have := around_calls (at' := p) (Rp.row_pure hr hu) hb hlc
      rw [e1] at this
      exact this : Calls Tryz.prog 20 #[.slice A l.length c, .int .i64 p] W fun e w' => e = .returned (.int .i64 (b : Nat)) ∧ Pure W w'))
    have HT1 := As.mk (fun W (B : Addr) (hrow : tokR.row W (fun _ => True) (some B) x) => (by
      have := Text_calls (c := x.length) hrow (by omega)
      rw [d4] at this
      exact this : Calls Tryz.prog 22 #[.slice (some B) x.length x.length] W fun e w' => e = .returned (.string ⟨(textB l).toArray⟩) ∧ Pure W w'))
    have HT2 := As.mk (fun W (hu : Pure w W) => Text_calls (c := c) (Rp.row_pure hr hu) hb)
    have HD1 := As.mk (fun W (B : Addr) (hrow : tokR.row W (fun _ => True) (some B) x) => (by
      have := Deep_calls (at' := (dest : Int)) (c := x.length) hrow (by omega) (Nat.le_refl _)
      rw [hdx] at this
      exact this : Calls Tryz.prog 28 #[.slice (some B) x.length x.length, .int .i64 (dest : Nat)] W fun e w' => e = .returned (.int .i64 (dx : Nat)) ∧ Pure W w'))
    have HD2 := As.mk (fun W (hu : Pure w W) => (by
      have := Deep_calls (at' := (b : Int)) (c := c) (Rp.row_pure hr hu) hb hlc
      rw [← d5] at this
      rw [show (((dx + 1 : Nat)) : Int) = (dx : Int) + 1 by omega] at this
      exact this : Calls Tryz.prog 28 #[.slice A l.length c, .int .i64 (b : Nat)] W fun e w' => e = .returned (.int .i64 ((dx : Int) + 1)) ∧ Pure W w'))
    have HZX := As.mk (fun W (B : Addr) (hrow : tokR.row W (fun _ => True) (some B) x) => tok_at hrow d3)
    obtain ⟨bA, oA, rfl, hF, hbA, c0, c1, c2, c3⟩ := tok_at hr e3
    have HBA := As.mk hbA
    have HCS := As.mk (And.intro c0 (And.intro c1 (And.intro c2 c3)))
    have gb : ¬ ((b : Int) < 0) := by omega
    have j1 : decide ((dest : Int) ≥ 0) = true := by simp
    have j2 : decide ((dest : Int) < (x.length : Int)) = true := by simp; omega
    have j3 : decide (dest < x.length) = true := by simp; omega
    generalize textB l = tb at *
    clear hr h0 hl p0 p1 ha1 ha2 hre e1 e2 e3 e4 e5 e6 e7 e8 d1 d3 d4 d5 hck hok hsl hst hdx hX hne hF hbA c0 c1 c2 c3 o1 o2 o3 o4 o5 o6 o7 htl d1' hsl' hxl h1
    go_enter Tryz.func8, Tryz.ntmps8
    go_wp2_with (first | (go_at_call 22; first | (refine (HT2.out _ HU5.out).mono ?_; rintro r w6 ⟨rfl, hu⟩; have HU6 := As.mk (HU5.out.trans hu (fun _ _ h => h)); have HX6 := As.mk (Rp.row_pure HX5.out hu); have HSB6 := As.mk ((hu.block _ (lt_of_block HSB5.out) (fun h => h)).trans HSB5.out); obtain ⟨o0, o1, o2, o3, o4, o5, o6, o7⟩ := cells8 HSB6.out; clear hu) | (refine (HT1.out _ _ HX4.out).mono ?_; rintro r w5 ⟨rfl, hu⟩; have HU5 := As.mk (HU4.out.trans hu (fun _ _ h => h)); have HX5 := As.mk (Rp.row_pure HX4.out hu); have HSB5 := As.mk ((hu.block _ (lt_of_block HSB4.out) (fun h => h)).trans HSB4.out); obtain ⟨m0, m1, m2, m3, m4, m5, m6, m7⟩ := cells8 HSB5.out; clear hu)) | (go_at_call 20; refine (HAR.out _ HU3.out).mono ?_; rintro r w4 ⟨rfl, hu⟩; have HU4 := As.mk (HU3.out.trans hu (fun _ _ h => h)); have HX4 := As.mk (Rp.row_pure HX3.out hu); have HSB4 := As.mk ((hu.block _ (lt_of_block HSB3.out) (fun h => h)).trans HSB3.out); obtain ⟨n0, n1, n2, n3, n4, n5, n6, n7⟩ := cells8 HSB4.out; clear hu) | (go_at_call 16; refine (HA1.out _ (HU2.out.alloc _) _ _ (Rp.row_pure HR2.out (Upd.alloc1 _ _ _)) HC2.out HZ2.out).mono ?_; rintro r w3 ⟨⟨B3, rfl, hrow⟩, hu⟩; obtain ⟨hsb, hu3⟩ := one_up hu; have HSB3 := As.mk hsb; have HU3 := As.mk (HU2.out.trans hu3 (fun _ _ h => h)); have HX3 := As.mk hrow; clear hu hu3 hsb hrow) | (go_at_call 25; refine (HI.out _ _ HU1.out HS1.out).mono ?_; rintro r w2 ⟨⟨B2, c2, rfl, hrow, hc2, hz2⟩, hu⟩; have HU2 := As.mk (HU1.out.trans hu (fun _ _ h => h)); have HR2 := As.mk hrow; have HC2 := As.mk hc2; have HZ2 := As.mk hz2; clear hu hrow hc2 hz2) | (go_at_call 13; refine (HH.out w).mono ?_; rintro r w1 ⟨cb1, rfl, hs, hu⟩; have HS1 := As.mk hs; have HU1 := As.mk hu; clear hu hs))
    obtain ⟨bX, oX, hBX, _, hbX, x0, x1, x2, x3⟩ := HZX.out _ _ HX6.out
    cases hBX
    have HXS := As.mk (And.intro x0 (And.intro x1 (And.intro x2 x3)))
    have HBX := As.mk hbX
    clear hbX x0 x1 x2 x3
    have HK8 := As.mk (fun v (hu : Pure w6 v) => (by
      obtain ⟨e0, e1, e2, e3⟩ := HCS.out
      obtain ⟨f0, f1, f2, f3⟩ := HXS.out
      have hb9 := HBA.out
      have hh : ∀ k, v.cell? ⟨bA, k, none⟩ = w.cell? ⟨bA, k, none⟩ := fun k => (hu.cell (Nat.lt_of_lt_of_le hb9 HU6.out.size) (fun h => h)).trans (HU6.out.cell hb9 (fun h => h))
      have hx : ∀ k, v.cell? ⟨bX, k, none⟩ = w6.cell? ⟨bX, k, none⟩ := fun k => hu.cell HBX.out (fun h => h)
      exact ⟨⟨(hx _).trans f0, (hx _).trans f1, (hx _).trans f2, (hx _).trans f3⟩, (hh _).trans e0, (hh _).trans e1, (hh _).trans e2, (hh _).trans e3⟩ : (fun v => (v.cell? ⟨bX, oX + dest * 4, none⟩ = some (.int .i64 z.k) ∧ v.cell? ⟨bX, oX + dest * 4 + 1, none⟩ = some (.int .i64 z.t) ∧ v.cell? ⟨bX, oX + dest * 4 + 2, none⟩ = some (.int .i64 z.n) ∧ v.cell? ⟨bX, oX + dest * 4 + 3, none⟩ = some (.int .i64 z.m)) ∧ v.cell? ⟨bA, oA + b * 4, none⟩ = some (.int .i64 z.k) ∧ v.cell? ⟨bA, oA + b * 4 + 1, none⟩ = some (.int .i64 z.t) ∧ v.cell? ⟨bA, oA + b * 4 + 2, none⟩ = some (.int .i64 z.n) ∧ v.cell? ⟨bA, oA + b * 4 + 3, none⟩ = some (.int .i64 z.m)) v))
    refine wp_region_held_drew (S := (fun v => (v.cell? ⟨bX, oX + dest * 4, none⟩ = some (.int .i64 z.k) ∧ v.cell? ⟨bX, oX + dest * 4 + 1, none⟩ = some (.int .i64 z.t) ∧ v.cell? ⟨bX, oX + dest * 4 + 2, none⟩ = some (.int .i64 z.n) ∧ v.cell? ⟨bX, oX + dest * 4 + 3, none⟩ = some (.int .i64 z.m)) ∧ v.cell? ⟨bA, oA + b * 4, none⟩ = some (.int .i64 z.k) ∧ v.cell? ⟨bA, oA + b * 4 + 1, none⟩ = some (.int .i64 z.t) ∧ v.cell? ⟨bA, oA + b * 4 + 2, none⟩ = some (.int .i64 z.n) ∧ v.cell? ⟨bA, oA + b * 4 + 3, none⟩ = some (.int .i64 z.m))) (by kernel_rfl) ?_ (fun hHeld => ?_)
    · with_reducible (first | exact HK8.out _ (Upd.refl _ _).drew | exact HK8.out _ HP7.out | exact HK8.out _ HP8.out | exact HK8.out _ HP9.out)
    refine takeH 0 (by exact opAt rfl) (by kernel_rfl) (by exact fun _ _ _ h => h) (by rfl) (by intro w hSw; (try dsimp only at hSw); go_simp; try with_reducible rfl) (by assumption) ?_
    (try simp only [Act.put, List.setIfInBounds_toArray, List.set_cons_zero, List.set_cons_succ])
    refine takeH 1 (by exact opAt rfl) (by kernel_rfl) (by exact fun _ _ _ h => h) (by rfl) (by intro w hSw; (try dsimp only at hSw); go_simp; try with_reducible rfl) (by assumption) ?_
    (try simp only [Act.put, List.setIfInBounds_toArray, List.set_cons_zero, List.set_cons_succ])
    refine takeH 2 (by exact opAt rfl) (by kernel_rfl) (by exact fun _ _ _ h => h) (by rfl) (by intro w hSw; (try dsimp only at hSw); go_simp; try with_reducible rfl) (by assumption) ?_
    (try simp only [Act.put, List.setIfInBounds_toArray, List.set_cons_zero, List.set_cons_succ])
    refine takeH 3 (by exact opAt rfl) (by kernel_rfl) (by exact fun _ _ _ h => h) (by rfl) (by intro w hSw; (try dsimp only at hSw); go_simp; try with_reducible rfl) (by assumption) ?_
    (try simp only [Act.put, List.setIfInBounds_toArray, List.set_cons_zero, List.set_cons_succ])
    refine takeH 4 (by exact opAt rfl) (by kernel_rfl) (by exact fun _ _ _ h => h) (by rfl) (by intro w hSw; (try dsimp only at hSw); go_simp; try with_reducible rfl) (by assumption) ?_
    (try simp only [Act.put, List.setIfInBounds_toArray, List.set_cons_zero, List.set_cons_succ])
    refine takeH 5 (by exact opAt rfl) (by kernel_rfl) (by exact fun _ _ _ h => h) (by rfl) (by intro w hSw; (try dsimp only at hSw); go_simp; try with_reducible rfl) (by assumption) ?_
    (try simp only [Act.put, List.setIfInBounds_toArray, List.set_cons_zero, List.set_cons_succ])
    refine takeH 6 (by exact opAt rfl) (by kernel_rfl) (by exact fun _ _ _ h => h) (by rfl) (by intro w hSw; (try dsimp only at hSw); go_simp; try with_reducible rfl) (by assumption) ?_
    (try simp only [Act.put, List.setIfInBounds_toArray, List.set_cons_zero, List.set_cons_succ])
    refine takeH 7 (by exact opAt rfl) (by kernel_rfl) (by exact fun _ _ _ h => h) (by rfl) (by intro w hSw; (try dsimp only at hSw); go_simp; try with_reducible rfl) (by assumption) ?_
    (try simp only [Act.put, List.setIfInBounds_toArray, List.set_cons_zero, List.set_cons_succ])
    refine takeH 8 (by exact opAt rfl) (by kernel_rfl) (by exact fun _ _ _ h => h) (by rfl) (by intro w hSw; (try dsimp only at hSw); go_simp; try with_reducible rfl) (by assumption) ?_
    (try simp only [Act.put, List.setIfInBounds_toArray, List.set_cons_zero, List.set_cons_succ])
    refine takeH 9 (by exact opAt rfl) (by kernel_rfl) (by exact fun _ _ _ h => h) (by rfl) (by intro w hSw; (try dsimp only at hSw); go_simp; try with_reducible rfl) (by assumption) ?_
    (try simp only [Act.put, List.setIfInBounds_toArray, List.set_cons_zero, List.set_cons_succ])
    refine takeH 10 (by exact opAt rfl) (by kernel_rfl) (by exact fun _ _ _ h => h) (by rfl) (by intro w hSw; (try dsimp only at hSw); go_simp; try with_reducible rfl) (by assumption) ?_
    (try simp only [Act.put, List.setIfInBounds_toArray, List.set_cons_zero, List.set_cons_succ])
    refine takeH 11 (by exact opAt rfl) (by kernel_rfl) (by exact fun _ _ _ h => h) (by rfl) (by intro w hSw; (try dsimp only at hSw); go_simp; try with_reducible rfl) (by assumption) ?_
    (try simp only [Act.put, List.setIfInBounds_toArray, List.set_cons_zero, List.set_cons_succ])
    refine takeH 12 (by exact opAt rfl) (by kernel_rfl) (by exact fun _ _ _ h => h) (by rfl) (by intro w hSw; (try dsimp only at hSw); go_simp; try with_reducible rfl) (by assumption) ?_
    (try simp only [Act.put, List.setIfInBounds_toArray, List.set_cons_zero, List.set_cons_succ])
    refine takeH 13 (by exact opAt rfl) (by kernel_rfl) (by exact fun _ _ _ h => h) (by rfl) (by intro w hSw; (try dsimp only at hSw); go_simp; try with_reducible rfl) (by assumption) ?_
    (try simp only [Act.put, List.setIfInBounds_toArray, List.set_cons_zero, List.set_cons_succ])
    refine takeH 14 (by exact opAt rfl) (by kernel_rfl) (by exact fun _ _ _ h => h) (by rfl) (by intro w hSw; (try dsimp only at hSw); go_simp; try with_reducible rfl) (by assumption) ?_
    (try simp only [Act.put, List.setIfInBounds_toArray, List.set_cons_zero, List.set_cons_succ])
    refine takeH 15 (by exact opAt rfl) (by kernel_rfl) (by exact fun _ _ _ h => h) (by rfl) (by intro w hSw; (try dsimp only at hSw); go_simp; try with_reducible rfl) (by assumption) ?_
    (try simp only [Act.put, List.setIfInBounds_toArray, List.set_cons_zero, List.set_cons_succ])
    refine takeH 16 (by exact opAt rfl) (by kernel_rfl) (by exact fun _ _ _ h => h) (by rfl) (by intro w hSw; (try dsimp only at hSw); go_simp; try with_reducible rfl) (by assumption) ?_
    (try simp only [Act.put, List.setIfInBounds_toArray, List.set_cons_zero, List.set_cons_succ])
    refine takeH 17 (by exact opAt rfl) (by kernel_rfl) (by exact fun _ _ _ h => h) (by rfl) (by intro w hSw; (try dsimp only at hSw); go_simp; try with_reducible rfl) (by assumption) ?_
    (try simp only [Act.put, List.setIfInBounds_toArray, List.set_cons_zero, List.set_cons_succ])
    refine takeH 18 (by exact opAt rfl) (by kernel_rfl) (by exact fun _ _ _ h => h) (by rfl) (by intro w hSw; (try dsimp only at hSw); go_simp; try with_reducible rfl) (by assumption) ?_
    (try simp only [Act.put, List.setIfInBounds_toArray, List.set_cons_zero, List.set_cons_succ])
    refine takeH 19 (by exact opAt rfl) (by kernel_rfl) (by exact fun _ _ _ h => h) (by rfl) (by intro w hSw; (try dsimp only at hSw); go_simp; try with_reducible rfl) (by assumption) ?_
    (try simp only [Act.put, List.setIfInBounds_toArray, List.set_cons_zero, List.set_cons_succ])
    refine takeH 20 (by exact opAt rfl) (by kernel_rfl) (by exact fun _ _ _ h => h) (by rfl) (by intro w hSw; (try dsimp only at hSw); go_simp; try with_reducible rfl) (by assumption) ?_
    (try simp only [Act.put, List.setIfInBounds_toArray, List.set_cons_zero, List.set_cons_succ])
    refine takeH 21 (by exact opAt rfl) (by kernel_rfl) (by exact fun _ _ _ h => h) (by rfl) (by intro w hSw; (try dsimp only at hSw); go_simp; try with_reducible rfl) (by assumption) ?_
    (try simp only [Act.put, List.setIfInBounds_toArray, List.set_cons_zero, List.set_cons_succ])
    refine takeH 23 (by exact opAt rfl) (by kernel_rfl) (by exact fun _ _ _ h => h) (by rfl) (by intro w hSw; (try dsimp only at hSw); go_simp; try with_reducible rfl) (by assumption) ?_
    (try simp only [Act.put, List.setIfInBounds_toArray, List.set_cons_zero, List.set_cons_succ])
    refine takeH 24 (by exact opAt rfl) (by kernel_rfl) (by exact fun _ _ _ h => h) (by rfl) (by intro w hSw; (try dsimp only at hSw); go_simp; try with_reducible rfl) (by assumption) ?_
    (try simp only [Act.put, List.setIfInBounds_toArray, List.set_cons_zero, List.set_cons_succ])
    refine wpAnyH_ready (rs := [22]) (by kernel_rfl) (by simp) (AllReadyH.cons (o := { dst := (some 93), op := (Go.Op.call { callee := (Go.Callee.value (Go.Operand.func 28)), args := #[(Go.Operand.tmp 91), (Go.Operand.tmp 92)], argTypes := #[22, 3] }), type := 3, pos := "law.go:171", after := #[{ on := 20, ground := Go.Ground.data }, { on := 21, ground := Go.Ground.data }, { on := 19, ground := Go.Ground.chain }, { on := 19, ground := Go.Ground.guard }], guard := (some (19, true)) }) rfl (fun K hK => ?_) AllReadyH.nil)
    go_simp
    (first | (go_at_call 12; refine (HAW.out _).mono ?_; rintro r w9 ⟨rfl, hu⟩; have HP9 := As.mk (HP8.out.trans hu (fun _ _ h => h)); clear hu) | (go_at_call 28; first | (with_reducible refine (HD2.out w7 (HU6.out.trans HP7.out (fun _ _ h => h))).mono ?_; rintro r w8 ⟨rfl, hu⟩; have HP8 := As.mk (HP7.out.trans hu (fun _ _ h => h)); clear hu) | (refine (HD1.out _ _ (Rp.row_pure HX6.out (Upd.refl _ _).drew)).mono ?_; rintro r w7 ⟨rfl, hu⟩; have HP7 := As.mk ((Upd.refl _ _).drew.trans hu (fun _ _ h => h)); clear hu)))
    refine hK.out _ _ (by with_reducible (first | exact HK8.out _ (Upd.refl _ _).drew | exact HK8.out _ HP7.out | exact HK8.out _ HP8.out | exact HK8.out _ HP9.out)) (fun hHeld => ?_)
    clear hK K
    (try simp only [Act.put, List.setIfInBounds_toArray, List.set_cons_zero, List.set_cons_succ])
    refine wpAnyH_ready (rs := [25]) (by kernel_rfl) (by simp) (AllReadyH.cons (o := { dst := (some 96), op := (Go.Op.call { callee := (Go.Callee.value (Go.Operand.func 28)), args := #[(Go.Operand.tmp 94), (Go.Operand.tmp 95)], argTypes := #[22, 3] }), type := 3, pos := "law.go:171", after := #[{ on := 23, ground := Go.Ground.data }, { on := 24, ground := Go.Ground.data }, { on := 22, ground := Go.Ground.chain }, { on := 19, ground := Go.Ground.guard }], guard := (some (19, true)) }) rfl (fun K hK => ?_) AllReadyH.nil)
    go_simp
    (first | (go_at_call 12; refine (HAW.out _).mono ?_; rintro r w9 ⟨rfl, hu⟩; have HP9 := As.mk (HP8.out.trans hu (fun _ _ h => h)); clear hu) | (go_at_call 28; first | (with_reducible refine (HD2.out w7 (HU6.out.trans HP7.out (fun _ _ h => h))).mono ?_; rintro r w8 ⟨rfl, hu⟩; have HP8 := As.mk (HP7.out.trans hu (fun _ _ h => h)); clear hu) | (refine (HD1.out _ _ (Rp.row_pure HX6.out (Upd.refl _ _).drew)).mono ?_; rintro r w7 ⟨rfl, hu⟩; have HP7 := As.mk ((Upd.refl _ _).drew.trans hu (fun _ _ h => h)); clear hu)))
    refine hK.out _ _ (by with_reducible (first | exact HK8.out _ (Upd.refl _ _).drew | exact HK8.out _ HP7.out | exact HK8.out _ HP8.out | exact HK8.out _ HP9.out)) (fun hHeld => ?_)
    clear hK K
    (try simp only [Act.put, List.setIfInBounds_toArray, List.set_cons_zero, List.set_cons_succ])
    refine takeH 26 (by exact opAt rfl) (by kernel_rfl) (by exact fun _ _ _ h => h) (by rfl) (by intro w hSw; (try dsimp only at hSw); go_simp; try with_reducible rfl) (by assumption) ?_
    (try simp only [Act.put, List.setIfInBounds_toArray, List.set_cons_zero, List.set_cons_succ])
    refine takeH 27 (by exact opAt rfl) (by kernel_rfl) (by exact fun _ _ _ h => h) (by rfl) (by intro w hSw; (try dsimp only at hSw); go_simp; try with_reducible rfl) (by assumption) ?_
    (try simp only [Act.put, List.setIfInBounds_toArray, List.set_cons_zero, List.set_cons_succ])
    refine takeH 28 (by exact opAt rfl) (by kernel_rfl) (by exact fun _ _ _ h => h) (by rfl) (by intro w hSw; (try dsimp only at hSw); go_simp; try with_reducible rfl) (by assumption) ?_
    (try simp only [Act.put, List.setIfInBounds_toArray, List.set_cons_zero, List.set_cons_succ])
    refine takeH 29 (by exact opAt rfl) (by kernel_rfl) (by exact fun _ _ _ h => h) (by rfl) (by intro w hSw; (try dsimp only at hSw); go_simp; try with_reducible rfl) (by assumption) ?_
    (try simp only [Act.put, List.setIfInBounds_toArray, List.set_cons_zero, List.set_cons_succ])
    refine wpAnyH_ready (rs := [30]) (by kernel_rfl) (by simp) (AllReadyH.cons (o := { dst := (some 101), op := (Go.Op.call { callee := (Go.Callee.value (Go.Operand.func 12)), args := #[], argTypes := #[] }), type := 4, pos := "law.go:171", after := #[{ on := 29, ground := Go.Ground.chain }, { on := 29, ground := Go.Ground.guard }], guard := (some (29, true)) }) rfl (fun K hK => ?_) AllReadyH.nil)
    go_simp
    (first | (go_at_call 12; refine (HAW.out _).mono ?_; rintro r w9 ⟨rfl, hu⟩; have HP9 := As.mk (HP8.out.trans hu (fun _ _ h => h)); clear hu) | (go_at_call 28; first | (with_reducible refine (HD2.out w7 (HU6.out.trans HP7.out (fun _ _ h => h))).mono ?_; rintro r w8 ⟨rfl, hu⟩; have HP8 := As.mk (HP7.out.trans hu (fun _ _ h => h)); clear hu) | (refine (HD1.out _ _ (Rp.row_pure HX6.out (Upd.refl _ _).drew)).mono ?_; rintro r w7 ⟨rfl, hu⟩; have HP7 := As.mk ((Upd.refl _ _).drew.trans hu (fun _ _ h => h)); clear hu)))
    refine hK.out _ _ (by with_reducible (first | exact HK8.out _ (Upd.refl _ _).drew | exact HK8.out _ HP7.out | exact HK8.out _ HP8.out | exact HK8.out _ HP9.out)) (fun hHeld => ?_)
    clear hK K
    (try simp only [Act.put, List.setIfInBounds_toArray, List.set_cons_zero, List.set_cons_succ])
    refine takeH 31 (by exact opAt rfl) (by kernel_rfl) (by exact fun _ _ _ h => h) (by rfl) (by intro w hSw; (try dsimp only at hSw); go_simp; try with_reducible rfl) (by assumption) ?_
    (try simp only [Act.put, List.setIfInBounds_toArray, List.set_cons_zero, List.set_cons_succ])
    refine takeH 32 (by exact opAt rfl) (by kernel_rfl) (by exact fun _ _ _ h => h) (by rfl) (by intro w hSw; (try dsimp only at hSw); go_simp; try with_reducible rfl) (by assumption) ?_
    (try simp only [Act.put, List.setIfInBounds_toArray, List.set_cons_zero, List.set_cons_succ])
    refine wpAnyH_done (by kernel_rfl) ?_ _
    go_wp2
    go_ret
    exact ⟨rfl, HU6.out.trans HP9.out (fun _ _ h => h)⟩
  · have HI := As.mk (fun W cb (hu : Pure w W) hs => Lift_refused (cb := cb) hs (Rp.row_pure hr hu) hlc hb h0)
    have HA := As.mk (fun W (hu : Pure w W) => Apply_zero (Rp.row_pure hr hu) hlc hb)
    have f0 : (liftErr l p != 0) = true := by simpa using h0
    generalize liftErr l p = e at *
    clear hr h0
    go_enter Tryz.func8, Tryz.ntmps8
    go_wp2_with (first | (go_at_call 12; refine (HAW.out _).mono ?_; rintro r w6 ⟨rfl, hu⟩; have HU6 := As.mk (HU5.out.trans hu (fun _ _ h => h)); clear hu) | (go_at_call 15; refine (HTW.out _).mono ?_; rintro r w5 ⟨rfl, hu⟩; have HU5 := As.mk (HU3.out.trans hu (fun _ _ h => h)); clear hu) | (go_at_call 16; refine (HA.out _ (HU2.out.alloc _)).mono ?_; rintro r w3 ⟨⟨v3, e3, rfl⟩, hu⟩; obtain ⟨hb3, hu3⟩ := one_up hu; have HB3 := As.mk hb3; obtain ⟨k0, k1, k2, k3, k4, k5, k6, k7⟩ := cells8 hb3; have HU3 := As.mk (HU2.out.trans hu3 (fun _ _ h => h)); clear hu hb3 hu3) | (go_at_call 25; refine (HI.out _ _ HU1.out HS1.out).mono ?_; rintro r w2 ⟨rfl, hu⟩; have HU2 := As.mk (HU1.out.trans hu (fun _ _ h => h)); clear hu) | (go_at_call 13; refine (HH.out w).mono ?_; rintro r w1 ⟨cb1, rfl, hs, hu⟩; have HS1 := As.mk hs; have HU1 := As.mk hu; clear hu hs))
    go_ret
    exact ⟨rfl, HU6.out⟩
end Go.Proofs.YteeindicpbcjaaaGreatDoor
