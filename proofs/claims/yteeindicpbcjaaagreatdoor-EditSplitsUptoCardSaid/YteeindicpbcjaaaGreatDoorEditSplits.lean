/- EditSplits: the law's walk. -/
import Derived.Test.YteeindicpbcjaaaGreatDoorEdS
import Derived.Test.YteeindicpbcjaaaGreatDoorFlat
import Derived.Test.YteeindicpbcjaaaGreatDoorEditDeletes
namespace Go.Proofs.YteeindicpbcjaaaGreatDoor
open Go.RowKit
set_option linter.unusedVariables false
set_option linter.unusedSimpArgs false

theorem spl_zero {l : List Tok} {p : Int} (h : splErr l p = 0) : ∃ (i : Nat) (y : Tok), (houseCheck l).2 = 0 ∧ 0 ≤ p ∧ p ≤ l.length ∧ l[i]? = some y ∧ y.k = 1 ∧ remapErr l (repl p p [shutT, y]) = 0 ∧ splS l p = repl p p [shutT, y] := by
  unfold splErr at h
  by_cases h0 : placesErr l p p = 0
  · rw [if_neg (by omega)] at h
    obtain ⟨h1, h2, _, h3⟩ := places_zero.1 h0
    by_cases h4 : aroundL l p < 0
    · rw [if_pos h4] at h
      exact absurd h (by decide)
    · rw [if_neg h4] at h
      obtain ⟨i, y, h5, h6, h7, _⟩ := around_open (l := l) (p := p) (by omega)
      have h8 : (l[(aroundL l p).toNat]?).getD shutT = y := by rw [h5, show ((i : Int)).toNat = i by omega, h6]; rfl
      rw [h8] at h
      exact ⟨i, y, h1, h2, h3, h6, h7, h, by unfold splS; rw [h8]⟩
  · rw [if_pos h0] at h
    exact absurd h h0
theorem Split_ok {w : World} {F : Nat → Prop} {cb : Nat} {A : Option Addr} {c : Nat} {l : List Tok} {p : Int} {y : Tok} (h : SchR w cb houseRules houseGroups) (hr : tokR.row w F A l) (hlc : l.length ≤ c) (hb : l.length ≤ 1048576 * 4) (h0 : splErr l p = 0) (hs : splS l p = repl p p [shutT, y]) :
    Calls Tryz.prog 26 #[.pointer (some ⟨cb, 0, none⟩), .slice A l.length c, .int .i64 p] w (fun r w' => (∃ B' c', r = .returned (.tuple #[replV p p B' 2 c', .int .i64 0]) ∧ tokR.row w' (fun _ => True) B' [shutT, y] ∧ 2 ≤ c') ∧ Pure w w') := by
  have h1 := Split_calls (p := p) h hr hlc hb
  rw [h0, hs] at h1
  exact h1.mono fun r w' ⟨B', c', ⟨h2, h3⟩, ⟨h4, h5⟩, _⟩ => ⟨⟨B', c', h2, h4, h5⟩, h3⟩
theorem Split_no {w : World} {F : Nat → Prop} {cb : Nat} {A : Option Addr} {c : Nat} {l : List Tok} {p : Int} (h : SchR w cb houseRules houseGroups) (hr : tokR.row w F A l) (hlc : l.length ≤ c) (hb : l.length ≤ 1048576 * 4) (h0 : splErr l p ≠ 0) :
    Calls Tryz.prog 26 #[.pointer (some ⟨cb, 0, none⟩), .slice A l.length c, .int .i64 p] w (fun r w' => r = .returned (.tuple #[step0, .int .i64 (splErr l p)]) ∧ Pure w w') := by
  refine (Split_calls (p := p) h hr hlc hb).mono ?_
  rintro r w' ⟨B', c', ⟨rfl, h3⟩, _, h6⟩
  obtain ⟨rfl, rfl⟩ := h6 h0
  rw [toldS_refused h0]
  exact ⟨rfl, h3⟩
set_option maxRecDepth 100000 in
set_option maxHeartbeats 4000000 in
theorem Splits_walk {w : World} {F : Nat → Prop} {A : Option Addr} {c : Nat} {l : List Tok} {p : Int} (hr : tokR.row w F A l) (hlc : l.length ≤ c) (hb : l.length ≤ 1048576 * 4) :
    Calls Tryz.prog 7 #[.slice A l.length c, .int .i64 p] w (fun r w' => r = .returned (.bool true) ∧ Pure w w') := by
  have HH := As.mk (fun W => House_calls W)
  have HAW := As.mk (fun W => awake12_calls W)
  have HTW := As.mk (fun W => twin_zero W)
  by_cases h1 : 200 < l.length
  · have i1 : (200 : Int) < (l.length : Int) := by omega
    clear hr
    go_enter Tryz.func7, Tryz.ntmps7
    go_wp2_with (go_at_call 12; refine (HAW.out _).mono ?_; rintro r w1 ⟨rfl, hu⟩; have HU1 := As.mk hu; clear hu)
    go_ret
    exact ⟨rfl, HU1.out⟩
  · have i1 : ¬ (200 : Int) < (l.length : Int) := by omega
    by_cases h0 : splErr l p = 0
    · obtain ⟨i, y, hl, p0, p1, hy, hyk, hre, hspl⟩ := spl_zero h0
      obtain ⟨d1, d2, d3, d4, d5, d6, d7⟩ := splits_plain hl ⟨p0, p1⟩ hy hyk hre
      have hs1 := (remap_step hre).1
      have hs2 := (remap_step d5).1
      have hne := house_ne hl
      have hne2 := house_ne d1
      obtain ⟨x, hX⟩ : ∃ x, stepDo l (repl p p [shutT, y]) = x := ⟨_, rfl⟩
      rw [hX] at d1 d2 d3 d4 d5 d6 d7 hs2 hne2
      obtain ⟨q, rfl⟩ := Int.eq_ofNat_of_zero_le p0
      rw [show ((q : Int)).toNat = q by omega] at d3 d4
      obtain ⟨m, hm⟩ : ∃ m, m = q + 1 := ⟨_, rfl⟩
      rw [← hm] at d4
      rw [show (q : Int) + 2 = (m : Int) + 1 by omega] at d5 d6 hs2
      have hN : ((x.length : Nat) : Int) = (l.length : Int) + 2 := by omega
      have hw1 : IntKind.i64.wrap ((q : Int) + 1) = (m : Int) := by rw [IntWalk.i64_in _ (by omega)]; omega
      have hw2 : IntKind.i64.wrap ((l.length : Int) + 2) = (l.length : Int) + 2 := IntWalk.i64_in _ (by omega)
      have HI := As.mk (fun W cb (hu : Pure w W) hs => Split_ok (cb := cb) hs (Rp.row_pure hr hu) hlc hb h0 hspl)
      have HA1 := As.mk (fun W (hu : Pure w W) B cb (hrow : tokR.row W (fun _ => True) B [shutT, y]) (hcb : 2 ≤ cb) => Apply_ok (sl := [shutT, y]) hne (Rp.row_pure hr hu) hlc hb hrow hcb (by simp) hs1 hX)
      have HJ := As.mk (fun W cb (B : Addr) (hs : SchR W cb houseRules houseGroups) (hrow : tokR.row W (fun _ => True) (some B) x) => (by
        obtain ⟨b, o, hB⟩ := row_some hrow hne2
        cases hB
        exact Join_ok hs hrow (Nat.le_refl _) hm d3 d4 hyk d1 d5 : Calls Tryz.prog 27 #[.pointer (some ⟨cb, 0, none⟩), .slice (some B) x.length x.length, .int .i64 (m : Nat)] W (fun r w' => r = .returned (.tuple #[replV (q : Nat) ((m : Nat) + 1) none 0 0, .int .i64 0]) ∧ Pure W w')))
      have HA2 := As.mk (fun W (B : Addr) (hrow : tokR.row W (fun _ => True) (some B) x) => Apply_ok (f := (q : Nat)) (t := (m : Nat) + 1) (G := fun _ => True) (B := none) (cb := 0) (sl := []) hne2 hrow (Nat.le_refl _) (by omega) (.inl rfl) (Nat.le_refl _) (by simp) hs2 d6)
      have HL := As.mk (fun W (B : Addr) (hu : Pure w W) (hrow : tokR.row W (fun _ => True) (some B) l) => Alike_same (c := l.length) (c' := c) hrow (Rp.row_pure hr hu) hb)
      have HT1 := As.mk (fun W (B : Addr) (hrow : tokR.row W (fun _ => True) (some B) x) => (by
        have := Text_calls (c := x.length) hrow (by omega)
        rw [d7] at this
        exact this : Calls Tryz.prog 22 #[.slice (some B) x.length x.length] W fun e w' => e = .returned (.string ⟨(textB l).toArray⟩) ∧ Pure W w'))
      have HT2 := As.mk (fun W (hu : Pure w W) => Text_calls (c := c) (Rp.row_pure hr hu) hb)
      clear hr d1 d2 d3 d4 d5 d6 d7 hs1 hs2 hne hne2 hX hl hre h0 h1 hspl hy hyk p0 hm
      generalize textB l = tb at *
      go_enter Tryz.func7, Tryz.ntmps7
      go_wp2_with (first | (go_at_call 12; refine (HAW.out _).mono ?_; rintro r w9 ⟨rfl, hu⟩; have HU9 := As.mk (HU8.out.trans hu (fun _ _ h => h)); clear hu) | (go_at_call 22; first | (refine (HT2.out _ HU7.out).mono ?_; rintro r w8 ⟨rfl, hu⟩; have HU8 := As.mk (HU7.out.trans hu (fun _ _ h => h)); clear hu) | (refine (HT1.out _ _ HR6.out).mono ?_; rintro r w7 ⟨rfl, hu⟩; have HU7 := As.mk (HU6.out.trans hu (fun _ _ h => h)); clear hu)) | (go_at_call 18; refine (HL.out _ _ HU5.out HR5.out).mono ?_; rintro r w6 ⟨rfl, hu⟩; have HU6 := As.mk (HU5.out.trans hu (fun _ _ h => h)); have HR6 := As.mk (Rp.row_pure HX5.out hu); clear hu) | (go_at_call 27; refine (HJ.out _ _ _ HS3.out HR3.out).mono ?_; rintro r w4 ⟨rfl, hu⟩; have HU4 := As.mk (HU3.out.trans hu (fun _ _ h => h)); have HR4 := As.mk (Rp.row_pure HR3.out hu); clear hu) | (go_at_call 16; first | (refine (HA2.out _ _ (Rp.row_pure HR4.out (Upd.alloc1 _ _ _))).mono ?_; rintro r w5 ⟨⟨B5, rfl, hrow⟩, hu⟩; have HU5 := As.mk ((HU4.out.alloc _).trans hu (fun _ _ h => h)); have HR5 := As.mk hrow; have HX5 := As.mk (Rp.row_pure HR4.out ((Upd.alloc1 _ _ _).trans hu (fun _ _ h => h))); clear hu hrow) | (refine (HA1.out _ (HU2.out.alloc _) _ _ (Rp.row_pure HR2.out (Upd.alloc1 _ _ _)) HC2.out).mono ?_; rintro r w3 ⟨⟨B3, rfl, hrow⟩, hu⟩; have HU3 := As.mk ((HU2.out.alloc _).trans hu (fun _ _ h => h)); have HR3 := As.mk hrow; have HS3 := As.mk (HS2.out.pure ((Upd.alloc1 _ _ _).trans hu (fun _ _ h => h))); clear hu hrow)) | (go_at_call 26; refine (HI.out _ _ HU1.out HS1.out).mono ?_; rintro r w2 ⟨⟨B2, c2, rfl, hrow, hc2⟩, hu⟩; have HU2 := As.mk (HU1.out.trans hu (fun _ _ h => h)); have HR2 := As.mk hrow; have HC2 := As.mk hc2; have HS2 := As.mk (HS1.out.pure hu); clear hu hrow hc2) | (go_at_call 13; refine (HH.out w).mono ?_; rintro r w1 ⟨cb1, rfl, hs, hu⟩; have HS1 := As.mk hs; have HU1 := As.mk hu; clear hu hs))
      go_ret
      exact ⟨rfl, HU9.out⟩
    · have HI := As.mk (fun W cb (hu : Pure w W) hs => Split_no (cb := cb) hs (Rp.row_pure hr hu) hlc hb h0)
      have f0 : (splErr l p != 0) = true := by simpa using h0
      generalize splErr l p = e at *
      clear hr h0
      go_enter Tryz.func7, Tryz.ntmps7
      go_wp2_with (first | (go_at_call 12; refine (HAW.out _).mono ?_; rintro r w4 ⟨rfl, hu⟩; have HU4 := As.mk (HU3.out.trans hu (fun _ _ h => h)); clear hu) | (go_at_call 15; refine (HTW.out _).mono ?_; rintro r w3 ⟨rfl, hu⟩; have HU3 := As.mk ((HU2.out.alloc _).trans hu (fun _ _ h => h)); clear hu) | (go_at_call 26; refine (HI.out _ _ HU1.out HS1.out).mono ?_; rintro r w2 ⟨rfl, hu⟩; have HU2 := As.mk (HU1.out.trans hu (fun _ _ h => h)); clear hu) | (go_at_call 13; refine (HH.out w).mono ?_; rintro r w1 ⟨cb1, rfl, hs, hu⟩; have HS1 := As.mk hs; have HU1 := As.mk hu; clear hu hs))
      go_ret
      exact ⟨rfl, HU4.out⟩
end Go.Proofs.YteeindicpbcjaaaGreatDoor
