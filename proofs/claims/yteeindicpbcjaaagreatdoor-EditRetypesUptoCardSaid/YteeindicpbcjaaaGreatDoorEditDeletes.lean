/- EditDeletes: the law's walk. -/
import Derived.Test.YteeindicpbcjaaaGreatDoorEdAw
namespace Go.Proofs.YteeindicpbcjaaaGreatDoor
open Go.RowKit
set_option linter.unusedVariables false
set_option linter.unusedSimpArgs false

abbrev replV (f t : Int) (B : Option Addr) (n c : Nat) : Value := .agg #[.int .i64 0, .int .i64 f, .int .i64 t, .int .i64 0, .int .i64 0, .int .i64 0, .slice B n c, .int .i64 0]
theorem Insert_ok {w : World} {F G : Nat → Prop} {cb : Nat} {A T : Option Addr} {c ct : Nat} {l text : List Tok} {p : Int} (h : SchR w cb houseRules houseGroups) (hr : tokR.row w F A l) (hlc : l.length ≤ c) (hb : l.length ≤ 1048576 * 4) (hx : tokR.row w G T text) (hxb : text.length ≤ 1048576 * 4) (h0 : insErr l p text = 0) :
    Calls Tryz.prog 14 #[.pointer (some ⟨cb, 0, none⟩), .slice A l.length c, .int .i64 p, .slice T text.length ct] w (fun r w' => (∃ B' c', r = .returned (.tuple #[replV p p B' text.length c', .int .i64 0]) ∧ tokR.row w' (fun _ => True) B' text ∧ text.length ≤ c') ∧ Pure w w') := by
  have h1 := Insert_calls (ct := ct) (p := p) h hr hlc hb hx hxb
  rw [h0] at h1
  exact h1.mono fun r w' ⟨B', c', ⟨h2, h3⟩, ⟨h4, h5⟩, _⟩ => ⟨⟨B', c', h2, h4, h5⟩, h3⟩
theorem Insert_no {w : World} {F G : Nat → Prop} {cb : Nat} {A T : Option Addr} {c ct : Nat} {l text : List Tok} {p : Int} (h : SchR w cb houseRules houseGroups) (hr : tokR.row w F A l) (hlc : l.length ≤ c) (hb : l.length ≤ 1048576 * 4) (hx : tokR.row w G T text) (hxb : text.length ≤ 1048576 * 4) (h0 : insErr l p text ≠ 0) :
    Calls Tryz.prog 14 #[.pointer (some ⟨cb, 0, none⟩), .slice A l.length c, .int .i64 p, .slice T text.length ct] w (fun r w' => r = .returned (.tuple #[step0, .int .i64 (insErr l p text)]) ∧ Pure w w') := by
  refine (Insert_calls (ct := ct) (p := p) h hr hlc hb hx hxb).mono ?_
  rintro r w' ⟨B', c', ⟨rfl, h3⟩, _, h6⟩
  obtain ⟨rfl, rfl⟩ := h6 h0
  rw [toldS_refused h0]
  exact ⟨rfl, h3⟩
theorem Apply_ok {w : World} {F G : Nat → Prop} {A B : Option Addr} {c cb : Nat} {l sl x : List Tok} {f t : Int} (hne : l ≠ []) (hr : tokR.row w F A l) (hlc : l.length ≤ c) (hb : l.length ≤ 1048576 * 4) (hs : tokR.row w G B sl) (hsc : sl.length ≤ cb) (hsb : sl.length ≤ 1048576 * 4) (h0 : stepErr l (repl f t sl) = 0) (hx : stepDo l (repl f t sl) = x) :
    Calls Tryz.prog 16 #[.slice A l.length c, replV f t B sl.length cb] w (fun r w' => (∃ B1, r = .returned (.tuple #[.slice (some B1) x.length x.length, .int .i64 0]) ∧ tokR.row w' (fun _ => True) (some B1) x) ∧ Pure w w') := by
  have h1 := Apply_repl (f := f) (t := t) hne hr hlc hb hs hsc hsb
  rw [h0, hx] at h1
  exact h1.mono fun r w' h => by
    obtain ⟨⟨B, h2, h3⟩, h4⟩ := DocR.zero h
    exact ⟨⟨B, h2, Rp.row_fp h3 (fun _ _ => trivial)⟩, h4⟩
theorem Delete_ok {w : World} {F : Nat → Prop} {cb : Nat} {A : Option Addr} {c : Nat} {l : List Tok} {f t : Int} (h : SchR w cb houseRules houseGroups) (hr : tokR.row w F A l) (hlc : l.length ≤ c) (hb : l.length ≤ 1048576 * 4) (h0 : delErr l f t = 0) :
    Calls Tryz.prog 17 #[.pointer (some ⟨cb, 0, none⟩), .slice A l.length c, .int .i64 f, .int .i64 t] w (fun r w' => r = .returned (.tuple #[replV f t none 0 0, .int .i64 0]) ∧ Pure w w') := by
  have h1 := Delete_calls (f := f) (t := t) h hr hlc hb
  rw [h0] at h1
  exact h1
set_option maxRecDepth 100000 in
set_option maxHeartbeats 4000000 in
theorem Deletes_walk {w : World} {F G : Nat → Prop} {A T : Option Addr} {c ct : Nat} {l text : List Tok} {p : Int} (hr : tokR.row w F A l) (hlc : l.length ≤ c) (hb : l.length ≤ 1048576 * 4) (hx : tokR.row w G T text) (hxc : text.length ≤ ct) (hxb : text.length ≤ 1048576 * 4) :
    Calls Tryz.prog 3 #[.slice A l.length c, .int .i64 p, .slice T text.length ct] w (fun r w' => r = .returned (.bool true) ∧ Pure w w') := by
  have HH := As.mk (fun W => House_calls W)
  have HAW := As.mk (fun W => awake12_calls W)
  have HTW := As.mk (fun W => twin_zero W)
  by_cases h1 : 200 < l.length
  · have i1 : (200 : Int) < (l.length : Int) := by omega
    clear hr hx
    go_enter Tryz.func3, Tryz.ntmps3
    go_wp2_with (go_at_call 12; refine (HAW.out _).mono ?_; rintro r w1 ⟨rfl, hu⟩; have HU1 := As.mk hu; clear hu)
    go_ret
    exact ⟨rfl, HU1.out⟩
  · have i1 : ¬ (200 : Int) < (l.length : Int) := by omega
    by_cases h2 : 200 < text.length
    · have i2 : (200 : Int) < (text.length : Int) := by omega
      clear hr hx
      go_enter Tryz.func3, Tryz.ntmps3
      go_wp2_with (go_at_call 12; refine (HAW.out _).mono ?_; rintro r w1 ⟨rfl, hu⟩; have HU1 := As.mk hu; clear hu)
      go_ret
      exact ⟨rfl, HU1.out⟩
    · have i2 : ¬ (200 : Int) < (text.length : Int) := by omega
      by_cases h0 : insErr l p text = 0
      · obtain ⟨hl, p0, p1, hpt, hre⟩ := ins_zero.1 h0
        obtain ⟨d1, d2, d3, d4, d5⟩ := deletes_plain hl ⟨p0, p1⟩ hre
        have hs1 := (remap_step hre).1
        have hs2 := (remap_step d4).1
        have hne := house_ne hl
        have hne2 := house_ne d1
        obtain ⟨x, hX⟩ : ∃ x, stepDo l (repl p p text) = x := ⟨_, rfl⟩
        rw [hX] at d1 d2 d3 d4 d5 hs2 hne2
        have hd0 : delErr x p (p + text.length) = 0 := del_zero.2 ⟨d1, p0, by omega, d3, d4⟩
        have hN : ((x.length : Nat) : Int) = (l.length : Int) + (text.length : Int) := by omega
        have hw1 : IntKind.i64.wrap (p + (text.length : Int)) = p + (text.length : Int) := IntWalk.i64_in _ (by omega)
        have hw2 : IntKind.i64.wrap ((l.length : Int) + (text.length : Int)) = (l.length : Int) + (text.length : Int) := IntWalk.i64_in _ (by omega)
        have HI := As.mk (fun W cb (hu : Pure w W) hs => Insert_ok (ct := ct) (cb := cb) hs (Rp.row_pure hr hu) hlc hb (Rp.row_pure hx hu) hxb h0)
        have HA1 := As.mk (fun W (hu : Pure w W) B cb (hrow : tokR.row W (fun _ => True) B text) (hcb : text.length ≤ cb) => Apply_ok hne (Rp.row_pure hr hu) hlc hb hrow hcb hxb hs1 hX)
        have HD := As.mk (fun W cb (B : Addr) (hs : SchR W cb houseRules houseGroups) (hrow : tokR.row W (fun _ => True) (some B) x) => Delete_ok (f := p) (t := p + text.length) hs hrow (Nat.le_refl _) (by omega) hd0)
        have HA2 := As.mk (fun W (B : Addr) (hrow : tokR.row W (fun _ => True) (some B) x) => Apply_ok (f := p) (t := p + text.length) (G := fun _ => True) (B := none) (cb := 0) (sl := []) hne2 hrow (Nat.le_refl _) (by omega) (.inl rfl) (Nat.le_refl _) (by simp) hs2 d5)
        have HL := As.mk (fun W (B : Addr) (hu : Pure w W) (hrow : tokR.row W (fun _ => True) (some B) l) => Alike_same (c := l.length) (c' := c) hrow (Rp.row_pure hr hu) hb)
        clear hr hx d1 d2 d3 d4 d5 hs1 hs2 hne hne2 hX hd0 hl hpt hre h0 h1 h2
        go_enter Tryz.func3, Tryz.ntmps3
        go_wp2_with (first | (go_at_call 12; refine (HAW.out _).mono ?_; rintro r w7 ⟨rfl, hu⟩; have HU7 := As.mk (HU6.out.trans hu (fun _ _ h => h)); clear hu) | (go_at_call 18; refine (HL.out _ _ HU5.out HR5.out).mono ?_; rintro r w6 ⟨rfl, hu⟩; have HU6 := As.mk (HU5.out.trans hu (fun _ _ h => h)); clear hu) | (go_at_call 17; refine (HD.out _ _ _ HS3.out HR3.out).mono ?_; rintro r w4 ⟨rfl, hu⟩; have HU4 := As.mk (HU3.out.trans hu (fun _ _ h => h)); have HR4 := As.mk (Rp.row_pure HR3.out hu); clear hu) | (go_at_call 16; first | (refine (HA2.out _ _ (Rp.row_pure HR4.out (Upd.alloc1 _ _ _))).mono ?_; rintro r w5 ⟨⟨B5, rfl, hrow⟩, hu⟩; have HU5 := As.mk ((HU4.out.alloc _).trans hu (fun _ _ h => h)); have HR5 := As.mk hrow; clear hu hrow) | (refine (HA1.out _ (HU2.out.alloc _) _ _ (Rp.row_pure HR2.out (Upd.alloc1 _ _ _)) HC2.out).mono ?_; rintro r w3 ⟨⟨B3, rfl, hrow⟩, hu⟩; have HU3 := As.mk ((HU2.out.alloc _).trans hu (fun _ _ h => h)); have HR3 := As.mk hrow; have HS3 := As.mk (HS2.out.pure ((Upd.alloc1 _ _ _).trans hu (fun _ _ h => h))); clear hu hrow)) | (go_at_call 14; refine (HI.out _ _ HU1.out HS1.out).mono ?_; rintro r w2 ⟨⟨B2, c2, rfl, hrow, hc2⟩, hu⟩; have HU2 := As.mk (HU1.out.trans hu (fun _ _ h => h)); have HR2 := As.mk hrow; have HC2 := As.mk hc2; have HS2 := As.mk (HS1.out.pure hu); clear hu hrow hc2) | (go_at_call 13; refine (HH.out w).mono ?_; rintro r w1 ⟨cb1, rfl, hs, hu⟩; have HS1 := As.mk hs; have HU1 := As.mk hu; clear hu hs))
        go_ret
        exact ⟨rfl, HU7.out⟩
      · have HI := As.mk (fun W cb (hu : Pure w W) hs => Insert_no (ct := ct) (cb := cb) hs (Rp.row_pure hr hu) hlc hb (Rp.row_pure hx hu) hxb h0)
        have f0 : (insErr l p text != 0) = true := by simpa using h0
        generalize insErr l p text = e at *
        clear hr hx h0
        go_enter Tryz.func3, Tryz.ntmps3
        go_wp2_with (first | (go_at_call 12; refine (HAW.out _).mono ?_; rintro r w4 ⟨rfl, hu⟩; have HU4 := As.mk (HU3.out.trans hu (fun _ _ h => h)); clear hu) | (go_at_call 15; refine (HTW.out _).mono ?_; rintro r w3 ⟨rfl, hu⟩; have HU3 := As.mk ((HU2.out.alloc _).trans hu (fun _ _ h => h)); clear hu) | (go_at_call 14; refine (HI.out _ _ HU1.out HS1.out).mono ?_; rintro r w2 ⟨rfl, hu⟩; have HU2 := As.mk (HU1.out.trans hu (fun _ _ h => h)); clear hu) | (go_at_call 13; refine (HH.out w).mono ?_; rintro r w1 ⟨cb1, rfl, hs, hu⟩; have HS1 := As.mk hs; have HU1 := As.mk hu; clear hu hs))
        go_ret
        exact ⟨rfl, HU4.out⟩
end Go.Proofs.YteeindicpbcjaaaGreatDoor
