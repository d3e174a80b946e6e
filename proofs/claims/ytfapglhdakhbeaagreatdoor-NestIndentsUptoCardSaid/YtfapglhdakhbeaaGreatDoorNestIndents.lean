/- NestIndents: the law's walk. -/
import Derived.Test.YtfapglhdakhbeaaGreatDoorNestA
namespace Go.Proofs.YtfapglhdakhbeaaGreatDoor
open Go.RowKit
set_option linter.unusedVariables false
set_option linter.unusedSimpArgs false

set_option maxRecDepth 100000 in
set_option maxHeartbeats 4000000 in
theorem Indents_walk {w : World} {F : Nat → Prop} {A : Option Addr} {c : Nat} {l : List Tok} {p : Int} (hr : tokR.row w F A l) (hlc : l.length ≤ c) (hb : l.length ≤ 1048576 * 4) :
    Calls Tryz.prog 13 #[.slice A l.length c, .int .i64 p] w (fun r w' => r = .returned (.bool true) ∧ Pure w w') := by
  have HH := As.mk (fun W => House_calls W)
  have HAW := As.mk (fun W => awake27_calls W)
  have HTW := As.mk (fun W => twin27_zero W)
  by_cases h1 : 200 < l.length
  · have i1 : (200 : Int) < (l.length : Int) := by omega
    clear hr
    go_enter Tryz.func13, Tryz.ntmps13
    go_wp2_with (go_at_call 52; refine (HAW.out _).mono ?_; rintro r w1 ⟨rfl, hu⟩; have HU1 := As.mk hu; clear hu)
    go_ret
    exact ⟨rfl, HU1.out⟩
  have i1 : ¬ (200 : Int) < (l.length : Int) := by omega
  by_cases h0 : indErr l p = 0
  · obtain ⟨hl, p0, p1, x0, r0, hit, hok, hre, hst0⟩ := ind_zero h0
    obtain ⟨n, rfl⟩ := Int.eq_ofNat_of_zero_le p0
    obtain ⟨d1, d2, dst, d3, d4, d5, x2, r2, li2, d6, d7, d8, d9, d10⟩ := indents_plain hl (by omega) hit hok hre
    obtain ⟨a, bb, g, h', ins, sl, hst, hslne⟩ := nind_arnd l x0.toNat (aroundL l x0).toNat
    rw [hst] at hst0 hre d1 d2 d3 d4 d5 d6 d7 d8 d9 d10
    obtain ⟨_, hck, htl, _⟩ := remap_zero.1 hre
    obtain ⟨hsl, hko⟩ := step_check_zero.1 hck
    obtain ⟨o1, o2, o3, o4, o5, o6, o7, _⟩ := arnd_ok.1 hko
    have d3' : (dst : Int) = (n : Int) - g + a + ins := d3
    have hsl' : sl.length ≤ 2048 := hsl
    have hne := house_ne hl
    have hxl := house_len_le d1
    obtain ⟨x, hX⟩ : ∃ x, stepDo l (arnd a bb g h' ins sl) = x := ⟨_, rfl⟩
    rw [hX] at d1 d2 d4 d5 d6 d7 d8 d9 d10 hxl
    have hnex := house_ne d1
    -- the way back
    have hO0 : outErr x (dst : Int) = 0 := by
      unfold outErr
      rw [if_neg (by rw [Decidable.not_not]; exact places_zero.2 ⟨d1, by omega, by omega, by omega⟩), d6]
      simp only [Int.toNat_natCast]
      rw [if_pos d7, d8, Int.toNat_natCast, d9]
    have hO1 : outSt x (dst : Int) = nOut x x2 li2 := by
      unfold outSt
      rw [d6]
      simp only [Int.toNat_natCast]
      rw [d8, Int.toNat_natCast]
    obtain ⟨a2, b2, g2, h2', ins2, sl2, hst2, hslne2⟩ := nout_arnd x x2 li2
    rw [hst2] at d9 d10 hO1
    have hsl2' : sl2.length ≤ 2048 := (step_check_zero.1 (remap_zero.1 d9).2.1).1
    have hil := items_len l n
    obtain ⟨k, hk⟩ : ∃ k, (itemsL l (n : Int)).length = k := ⟨_, rfl⟩
    rw [hk] at d5 hil
    have hw1 : IntKind.i64.wrap ((n : Int) - g) = (n : Int) - g := IntWalk.i64_in _ (by omega)
    have hw2 : IntKind.i64.wrap ((n : Int) - g + a) = (n : Int) - g + a := IntWalk.i64_in _ (by omega)
    have hw3 : IntKind.i64.wrap ((n : Int) - g + a + ins) = (dst : Int) := by rw [IntWalk.i64_in _ (by omega)]; omega
    have hw4 : IntKind.i64.wrap ((k : Int) + 1) = (k : Int) + 1 := IntWalk.i64_in _ (by omega)
    have HI := As.mk (fun W cb (hu : Pure w W) hs => (by
      have h9 := Indent_calls (p := (n : Int)) (cb := cb) hs (Rp.row_pure hr hu) hlc (by omega)
      rw [h0] at h9
      exact h9.mono (fun r w' h => NTold.arnd h hst0) : Calls Tryz.prog 53 #[.pointer (some ⟨cb, 0, none⟩), .slice A l.length c, .int .i64 (n : Nat)] W (ArndT a bb g h' ins sl W)))
    have HO := As.mk (fun W cb (B : Addr) (hrow : tokR.row W (fun _ => True) (some B) x) hs => (by
      have h9 := Outdent_calls (p := (dst : Int)) (cb := cb) hs hrow (Nat.le_refl _) hxl
      rw [hO0] at h9
      exact h9.mono (fun r w' h => NTold.arnd h hO1) : Calls Tryz.prog 55 #[.pointer (some ⟨cb, 0, none⟩), .slice (some B) x.length x.length, .int .i64 (dst : Nat)] W (ArndT a2 b2 g2 h2' ins2 sl2 W)))
    have HA1 := As.mk (fun W (hu : Pure w W) B cs (hrow : tokR.row W (fun _ => True) B sl) (hcs : sl.length ≤ cs) => Apply_arndW hne (Rp.row_pure hr hu) hlc hb hrow hcs (by omega) (fun e => absurd e hslne) hre hX)
    have HA2 := As.mk (fun W (Bx : Addr) (hx : tokR.row W (fun _ => True) (some Bx) x) B cs (hrow : tokR.row W (fun _ => True) B sl2) (hcs : sl2.length ≤ cs) => Apply_arndW hnex hx (Nat.le_refl _) (by omega) hrow hcs (by omega) (fun e => absurd e hslne2) d9 d10)
    have HL := As.mk (fun W (B : Addr) (hu : Pure w W) (hrow : tokR.row W (fun _ => True) (some B) l) => Alike27_same (c := l.length) (c' := c) hrow (Rp.row_pure hr hu) hb)
    have HT1 := As.mk (fun W (B : Addr) (hrow : tokR.row W (fun _ => True) (some B) x) => (by
      have := Text_calls (c := x.length) hrow (by omega)
      rw [d2] at this
      exact this : Calls Tryz.prog 62 #[.slice (some B) x.length x.length] W fun e w' => e = .returned (.string ⟨(textB l).toArray⟩) ∧ Pure W w'))
    have HT2 := As.mk (fun W (hu : Pure w W) => Text_calls (c := c) (Rp.row_pure hr hu) hb)
    have HD1 := As.mk (fun W (B : Addr) (hrow : tokR.row W (fun _ => True) (some B) x) => (by
      have := Level_calls (p := (dst : Int)) (c := x.length) hrow (by omega) (Nat.le_refl _)
      rw [d5] at this
      rw [show (((k + 1 : Nat)) : Int) = (k : Int) + 1 by omega] at this
      exact this : Calls Tryz.prog 63 #[.slice (some B) x.length x.length, .int .i64 (dst : Nat)] W fun e w' => e = .returned (.int .i64 ((k : Int) + 1)) ∧ Pure W w'))
    have HD2 := As.mk (fun W (hu : Pure w W) => (by
      have := Level_calls (p := (n : Int)) (c := c) (Rp.row_pure hr hu) hb hlc
      rw [hk] at this
      exact this : Calls Tryz.prog 63 #[.slice A l.length c, .int .i64 (n : Nat)] W fun e w' => e = .returned (.int .i64 (k : Nat)) ∧ Pure W w'))
    generalize textB l = tb at *
    unfold ArndT at HI HO
    clear hr h0 hl p0 p1 hit hok hre hst0 d1 d2 d3 d4 d5 d6 d7 d8 d9 d10 hst hst2 hck htl hsl hko o1 o2 o3 o4 o5 o6 o7 d3' hsl' hne hnex hxl hX hil hk h1 hslne hslne2 hsl2' hO0 hO1
    go_enter Tryz.func13, Tryz.ntmps13
    go_wp2_with (first | (go_at_call 52; refine (HAW.out _).mono ?_; rintro r wc ⟨rfl, hu⟩; have HUc := As.mk (HUb.out.trans hu (fun _ _ h => h)); clear hu) | (go_at_call 64; refine (HL.out _ _ HUa.out HRa.out).mono ?_; rintro r wb ⟨rfl, hu⟩; have HUb := As.mk (HUa.out.trans hu (fun _ _ h => h)); clear hu) | (go_at_call 63; first | (with_reducible refine (HD2.out w7 HU7.out).mono ?_; rintro r w8 ⟨rfl, hu⟩; have HU8 := As.mk (HU7.out.trans hu (fun _ _ h => h)); have HX8 := As.mk (Rp.row_pure HX7.out hu); have HS8 := As.mk (HS7.out.pure hu); clear hu) | (refine (HD1.out _ _ HX6.out).mono ?_; rintro r w7 ⟨rfl, hu⟩; have HU7 := As.mk (HU6.out.trans hu (fun _ _ h => h)); have HX7 := As.mk (Rp.row_pure HX6.out hu); have HS7 := As.mk (HS6.out.pure hu); clear hu)) | (go_at_call 62; first | (refine (HT2.out _ HU5.out).mono ?_; rintro r w6 ⟨rfl, hu⟩; have HU6 := As.mk (HU5.out.trans hu (fun _ _ h => h)); have HX6 := As.mk (Rp.row_pure HX5.out hu); have HS6 := As.mk (HS5.out.pure hu); clear hu) | (refine (HT1.out _ _ HX3.out).mono ?_; rintro r w5 ⟨rfl, hu⟩; have HU5 := As.mk (HU3.out.trans hu (fun _ _ h => h)); have HX5 := As.mk (Rp.row_pure HX3.out hu); have HS5 := As.mk (HS3.out.pure hu); clear hu)) | (go_at_call 59; first | (refine (HA2.out _ _ (Rp.row_pure HX9.out (Upd.alloc1 _ _ _)) _ _ (Rp.row_pure HR9.out (Upd.alloc1 _ _ _)) HC9.out).mono ?_; rintro r wa ⟨⟨Ba, rfl, hrow⟩, hu⟩; obtain ⟨hsb, hu3⟩ := one_up hu; have HUa := As.mk (HU9.out.trans hu3 (fun _ _ h => h)); have HRa := As.mk hrow; clear hu hu3 hsb hrow) | (refine (HA1.out _ (HU2.out.alloc _) _ _ (Rp.row_pure HR2.out (Upd.alloc1 _ _ _)) HC2.out).mono ?_; rintro r w3 ⟨⟨B3, rfl, hrow⟩, hu⟩; obtain ⟨hsb, hu3⟩ := one_up hu; obtain ⟨m0, m1, m2, m3, m4, m5, m6, m7⟩ := cells8 hsb; have HU3 := As.mk (HU2.out.trans hu3 (fun _ _ h => h)); have HS3 := As.mk (HS2.out.pure hu3); have HX3 := As.mk hrow; clear hu hu3 hsb hrow)) | (go_at_call 55; refine (HO.out _ _ _ HX8.out HS8.out).mono ?_; rintro r w9 ⟨⟨B9, c9, rfl, hrow, hc9, _⟩, hu⟩; have HU9 := As.mk (HU8.out.trans hu (fun _ _ h => h)); have HR9 := As.mk hrow; have HC9 := As.mk hc9; have HX9 := As.mk (Rp.row_pure HX8.out hu); clear hu hrow hc9) | (go_at_call 53; refine (HI.out _ _ HU1.out HS1.out).mono ?_; rintro r w2 ⟨⟨B2, c2, rfl, hrow, hc2, _⟩, hu⟩; have HU2 := As.mk (HU1.out.trans hu (fun _ _ h => h)); have HS2 := As.mk (HS1.out.pure hu); have HR2 := As.mk hrow; have HC2 := As.mk hc2; clear hu hrow hc2) | (go_at_call 15; refine (HH.out w).mono ?_; rintro r w1 ⟨cb1, rfl, hs, hu⟩; have HS1 := As.mk hs; have HU1 := As.mk hu; clear hu hs))
    go_ret
    exact ⟨rfl, HUc.out⟩
  · have HI := As.mk (fun W cb (hu : Pure w W) hs => (Indent_calls (p := p) (cb := cb) hs (Rp.row_pure hr hu) hlc (by omega)).mono (fun r w' h => NTold.refused h h0))
    have f0 : (indErr l p != 0) = true := by simpa using h0
    generalize indErr l p = e at *
    clear hr h0
    go_enter Tryz.func13, Tryz.ntmps13
    go_wp2_with (first | (go_at_call 52; refine (HAW.out _).mono ?_; rintro r w4 ⟨rfl, hu⟩; have HU4 := As.mk (HU3.out.trans hu (fun _ _ h => h)); clear hu) | (go_at_call 57; refine (HTW.out _).mono ?_; rintro r w3 ⟨rfl, hu⟩; have HU3 := As.mk ((HU2.out.alloc _).trans hu (fun _ _ h => h)); clear hu) | (go_at_call 53; refine (HI.out _ _ HU1.out HS1.out).mono ?_; rintro r w2 ⟨rfl, hu⟩; have HU2 := As.mk (HU1.out.trans hu (fun _ _ h => h)); clear hu) | (go_at_call 15; refine (HH.out w).mono ?_; rintro r w1 ⟨cb1, rfl, hs, hu⟩; have HS1 := As.mk hs; have HU1 := As.mk hu; clear hu hs))
    go_ret
    exact ⟨rfl, HU4.out⟩
end Go.Proofs.YtfapglhdakhbeaaGreatDoor
