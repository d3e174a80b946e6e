/- NestOutdents: the law's walk. -/
import Derived.Test.YtfapglhdakhbeaaGreatDoorNestA
namespace Go.Proofs.YtfapglhdakhbeaaGreatDoor
open Go.RowKit
set_option linter.unusedVariables false
set_option linter.unusedSimpArgs false

set_option maxRecDepth 100000 in
set_option maxHeartbeats 4000000 in
theorem Outdents_walk {w : World} {F : Nat → Prop} {A : Option Addr} {c : Nat} {l : List Tok} {p : Int} (hr : tokR.row w F A l) (hlc : l.length ≤ c) (hb : l.length ≤ 1048576 * 4) :
    Calls Tryz.prog 12 #[.slice A l.length c, .int .i64 p] w (fun r w' => r = .returned (.bool true) ∧ Pure w w') := by
  have HH := As.mk (fun W => House_calls W)
  have HAW := As.mk (fun W => awake27_calls W)
  have HTW := As.mk (fun W => twin27_zero W)
  by_cases h1 : 200 < l.length
  · have i1 : (200 : Int) < (l.length : Int) := by omega
    clear hr
    go_enter Tryz.func12, Tryz.ntmps12
    go_wp2_with (go_at_call 52; refine (HAW.out _).mono ?_; rintro r w1 ⟨rfl, hu⟩; have HU1 := As.mk hu; clear hu)
    go_ret
    exact ⟨rfl, HU1.out⟩
  have i1 : ¬ (200 : Int) < (l.length : Int) := by omega
  by_cases h0 : outErr l p = 0
  · obtain ⟨hl, p0, p1, x0, r0, hit, hok, hre, hst0⟩ := out_zero h0
    obtain ⟨n, rfl⟩ := Int.eq_ofNat_of_zero_le p0
    obtain ⟨d1, d2, dst, d3, d4, d5⟩ := outdents_plain hl (by omega) hit hok hre
    obtain ⟨a, bb, g, h', ins, sl, hst, hslne⟩ := nout_arnd l x0.toNat (aroundL l x0).toNat
    rw [hst] at hst0 hre d1 d2 d3 d4 d5
    obtain ⟨_, hck, htl, _⟩ := remap_zero.1 hre
    obtain ⟨hsl, hko⟩ := step_check_zero.1 hck
    obtain ⟨o1, o2, o3, o4, o5, o6, o7, _⟩ := arnd_ok.1 hko
    have d3' : (dst : Int) = (n : Int) - g + a + ins := d3
    have hsl' : sl.length ≤ 2048 := hsl
    have hne := house_ne hl
    have hxl := house_len_le d1
    obtain ⟨x, hX⟩ : ∃ x, stepDo l (arnd a bb g h' ins sl) = x := ⟨_, rfl⟩
    rw [hX] at d1 d2 d4 d5 hxl
    have hil := items_len l n
    obtain ⟨k, hk⟩ : ∃ k, (itemsL x (dst : Int)).length = k := ⟨_, rfl⟩
    rw [hk] at d5
    have hw1 : IntKind.i64.wrap ((n : Int) - g) = (n : Int) - g := IntWalk.i64_in _ (by omega)
    have hw2 : IntKind.i64.wrap ((n : Int) - g + a) = (n : Int) - g + a := IntWalk.i64_in _ (by omega)
    have hw3 : IntKind.i64.wrap ((n : Int) - g + a + ins) = (dst : Int) := by rw [IntWalk.i64_in _ (by omega)]; omega
    have hw4 : IntKind.i64.wrap ((k : Int) + 1 - 1) = (k : Int) := by rw [IntWalk.i64_in _ (by omega)]; omega
    have hw5 : IntKind.i64.wrap (k : Int) = (k : Int) := IntWalk.i64_in _ (by omega)
    have HI := As.mk (fun W cb (hu : Pure w W) hs => (by
      have h9 := Outdent_calls (p := (n : Int)) (cb := cb) hs (Rp.row_pure hr hu) hlc (by omega)
      rw [h0] at h9
      exact h9.mono (fun r w' h => NTold.arnd h hst0) : Calls Tryz.prog 55 #[.pointer (some ⟨cb, 0, none⟩), .slice A l.length c, .int .i64 (n : Nat)] W (ArndT a bb g h' ins sl W)))
    have HA1 := As.mk (fun W (hu : Pure w W) B cs (hrow : tokR.row W (fun _ => True) B sl) (hcs : sl.length ≤ cs) => Apply_arndW hne (Rp.row_pure hr hu) hlc hb hrow hcs (by omega) (fun e => absurd e hslne) hre hX)
    have HT1 := As.mk (fun W (B : Addr) (hrow : tokR.row W (fun _ => True) (some B) x) => (by
      have := Text_calls (c := x.length) hrow (by omega)
      rw [d2] at this
      exact this : Calls Tryz.prog 62 #[.slice (some B) x.length x.length] W fun e w' => e = .returned (.string ⟨(textB l).toArray⟩) ∧ Pure W w'))
    have HT2 := As.mk (fun W (hu : Pure w W) => Text_calls (c := c) (Rp.row_pure hr hu) hb)
    have HD1 := As.mk (fun W (B : Addr) (hrow : tokR.row W (fun _ => True) (some B) x) => (by
      have := Level_calls (p := (dst : Int)) (c := x.length) hrow (by omega) (Nat.le_refl _)
      rw [hk] at this
      exact this : Calls Tryz.prog 63 #[.slice (some B) x.length x.length, .int .i64 (dst : Nat)] W fun e w' => e = .returned (.int .i64 (k : Nat)) ∧ Pure W w'))
    have HD2 := As.mk (fun W (hu : Pure w W) => (by
      have := Level_calls (p := (n : Int)) (c := c) (Rp.row_pure hr hu) hb hlc
      rw [← d5] at this
      rw [show (((k + 1 : Nat)) : Int) = (k : Int) + 1 by omega] at this
      exact this : Calls Tryz.prog 63 #[.slice A l.length c, .int .i64 (n : Nat)] W fun e w' => e = .returned (.int .i64 ((k : Int) + 1)) ∧ Pure W w'))
    generalize textB l = tb at *
    unfold ArndT at HI
    clear hr h0 hl p0 p1 hit hok hre hst0 d1 d2 d3 d4 d5 hst hck htl hsl hko o1 o2 o3 o4 o5 o6 o7 d3' hsl' hne hxl hX hil hk h1 hslne
    go_enter Tryz.func12, Tryz.ntmps12
    go_wp2_with (first | (go_at_call 52; refine (HAW.out _).mono ?_; rintro r w9 ⟨rfl, hu⟩; have HU9 := As.mk (HU8.out.trans hu (fun _ _ h => h)); clear hu) | (go_at_call 63; first | (with_reducible refine (HD2.out w7 HU7.out).mono ?_; rintro r w8 ⟨rfl, hu⟩; have HU8 := As.mk (HU7.out.trans hu (fun _ _ h => h)); clear hu) | (refine (HD1.out _ _ HX6.out).mono ?_; rintro r w7 ⟨rfl, hu⟩; have HU7 := As.mk (HU6.out.trans hu (fun _ _ h => h)); clear hu)) | (go_at_call 62; first | (refine (HT2.out _ HU5.out).mono ?_; rintro r w6 ⟨rfl, hu⟩; have HU6 := As.mk (HU5.out.trans hu (fun _ _ h => h)); have HX6 := As.mk (Rp.row_pure HX5.out hu); clear hu) | (refine (HT1.out _ _ HX3.out).mono ?_; rintro r w5 ⟨rfl, hu⟩; have HU5 := As.mk (HU3.out.trans hu (fun _ _ h => h)); have HX5 := As.mk (Rp.row_pure HX3.out hu); clear hu)) | (go_at_call 59; refine (HA1.out _ (HU2.out.alloc _) _ _ (Rp.row_pure HR2.out (Upd.alloc1 _ _ _)) HC2.out).mono ?_; rintro r w3 ⟨⟨B3, rfl, hrow⟩, hu⟩; obtain ⟨hsb, hu3⟩ := one_up hu; obtain ⟨m0, m1, m2, m3, m4, m5, m6, m7⟩ := cells8 hsb; have HU3 := As.mk (HU2.out.trans hu3 (fun _ _ h => h)); have HX3 := As.mk hrow; clear hu hu3 hsb hrow) | (go_at_call 55; refine (HI.out _ _ HU1.out HS1.out).mono ?_; rintro r w2 ⟨⟨B2, c2, rfl, hrow, hc2, _⟩, hu⟩; have HU2 := As.mk (HU1.out.trans hu (fun _ _ h => h)); have HR2 := As.mk hrow; have HC2 := As.mk hc2; clear hu hrow hc2) | (go_at_call 15; refine (HH.out w).mono ?_; rintro r w1 ⟨cb1, rfl, hs, hu⟩; have HS1 := As.mk hs; have HU1 := As.mk hu; clear hu hs))
    go_ret
    exact ⟨rfl, HU9.out⟩
  · have HI := As.mk (fun W cb (hu : Pure w W) hs => (Outdent_calls (p := p) (cb := cb) hs (Rp.row_pure hr hu) hlc (by omega)).mono (fun r w' h => NTold.refused h h0))
    have f0 : (outErr l p != 0) = true := by simpa using h0
    generalize outErr l p = e at *
    clear hr h0
    go_enter Tryz.func12, Tryz.ntmps12
    go_wp2_with (first | (go_at_call 52; refine (HAW.out _).mono ?_; rintro r w4 ⟨rfl, hu⟩; have HU4 := As.mk (HU3.out.trans hu (fun _ _ h => h)); clear hu) | (go_at_call 57; refine (HTW.out _).mono ?_; rintro r w3 ⟨rfl, hu⟩; have HU3 := As.mk ((HU2.out.alloc _).trans hu (fun _ _ h => h)); clear hu) | (go_at_call 55; refine (HI.out _ _ HU1.out HS1.out).mono ?_; rintro r w2 ⟨rfl, hu⟩; have HU2 := As.mk (HU1.out.trans hu (fun _ _ h => h)); clear hu) | (go_at_call 15; refine (HH.out w).mono ?_; rintro r w1 ⟨cb1, rfl, hs, hu⟩; have HS1 := As.mk hs; have HU1 := As.mk hu; clear hu hs))
    go_ret
    exact ⟨rfl, HU4.out⟩
end Go.Proofs.YtfapglhdakhbeaaGreatDoor
