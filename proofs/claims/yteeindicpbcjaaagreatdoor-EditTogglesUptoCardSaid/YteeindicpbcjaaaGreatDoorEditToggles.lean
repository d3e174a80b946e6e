/- EditToggles: the law's walk. edit.Toggle at a document. -/
import Derived.Test.YteeindicpbcjaaaGreatDoorEdTc
import Derived.Test.YteeindicpbcjaaaGreatDoorFlat
namespace Go.Proofs.YteeindicpbcjaaaGreatDoor
open Go.RowKit
set_option linter.unusedVariables false
set_option linter.unusedSimpArgs false

abbrev markV (k f t m : Int) : Value := .agg #[.int .i64 k, .int .i64 f, .int .i64 t, .int .i64 0, .int .i64 0, .int .i64 0, .slice none 0 0, .int .i64 m]
theorem Apply_mark {w : World} {F : Nat → Prop} {A : Option Addr} {c : Nat} {l x : List Tok} {k f t m : Int} (hk : k = 2 ∨ k = 3) (hne : l ≠ []) (hr : tokR.row w F A l) (hlc : l.length ≤ c) (hb : l.length ≤ 1048576 * 4) (h0 : remapErr l (markS k f t m) = 0) (hx : stepDo l (markS k f t m) = x) :
    Calls Tryz.prog 16 #[.slice A l.length c, markV k f t m] w (fun r w' => (∃ B1, r = .returned (.tuple #[.slice (some B1) x.length x.length, .int .i64 0]) ∧ tokR.row w' (fun _ => True) (some B1) x) ∧ Pure w w') := by
  obtain ⟨r1, r2, r3, _⟩ := remap_zero.1 h0
  have h1 := Apply_doc (s := markS k f t m) (B := none) (cs := 0) (G := fun _ => True) hr hb (.inl rfl) (by simp [markS]) (doc_mark hk hne hr hlc r1 r2 r3) h0
  rw [hx] at h1
  exact h1.mono fun r w' ⟨⟨B1, h2, h3⟩, h4⟩ => ⟨⟨B1, h2, Rp.row_fp h3 (fun _ _ => trivial)⟩, h4⟩
set_option maxRecDepth 100000 in
set_option maxHeartbeats 4000000 in
theorem Toggles_no {w : World} {F : Nat → Prop} {A : Option Addr} {c : Nat} {l : List Tok} {f t m : Int} (hr : tokR.row w F A l) (hlc : l.length ≤ c) (hb : l.length ≤ 1048576 * 4) (h0 : 200 < l.length ∨ togErr l f t m ≠ 0) :
    Calls Tryz.prog 5 #[.slice A l.length c, .int .i64 f, .int .i64 t, .int .i64 m] w (fun r w' => r = .returned (.bool true) ∧ Pure w w') := by
  have HH := As.mk (fun W => House_calls W)
  have HAW := As.mk (fun W => awake12_calls W)
  have HTW := As.mk (fun W => twin_zero W)
  by_cases h1 : 200 < l.length
  · have i1 : (200 : Int) < (l.length : Int) := by omega
    clear hr h0
    go_enter Tryz.func5, Tryz.ntmps5
    go_wp2_with (go_at_call 12; refine (HAW.out _).mono ?_; rintro r w1 ⟨rfl, hu⟩; have HU1 := As.mk hu; clear hu)
    go_ret
    exact ⟨rfl, HU1.out⟩
  · have i1 : ¬ (200 : Int) < (l.length : Int) := by omega
    have h0 : togErr l f t m ≠ 0 := by
      rcases h0 with h | h
      · exact absurd h h1
      · exact h
    have HI := As.mk (fun W cb (hu : Pure w W) hs => (by
      have h1 := Toggle_calls (f := f) (t := t) (m := m) (cb := cb) hs (Rp.row_pure hr hu) hlc hb
      rw [toldS_refused h0] at h1
      exact h1 : Calls Tryz.prog 21 #[.pointer (some ⟨cb, 0, none⟩), .slice A l.length c, .int .i64 f, .int .i64 t, .int .i64 m] W (fun r w' => r = .returned (.tuple #[step0, .int .i64 (togErr l f t m)]) ∧ Pure W w')))
    have HA := As.mk (fun W (hu : Pure w W) => Apply_zero (Rp.row_pure hr hu) hlc hb)
    have f0 : (togErr l f t m != 0) = true := by simpa using h0
    generalize togErr l f t m = e at *
    clear hr h0
    go_enter Tryz.func5, Tryz.ntmps5
    go_wp2_with (first | (go_at_call 12; refine (HAW.out _).mono ?_; rintro r w6 ⟨rfl, hu⟩; have HU6 := As.mk (HU5.out.trans hu (fun _ _ h => h)); clear hu) | (go_at_call 15; refine (HTW.out _).mono ?_; rintro r w5 ⟨rfl, hu⟩; have HU5 := As.mk (HU3.out.trans hu (fun _ _ h => h)); clear hu) | (go_at_call 16; refine (HA.out _ (HU2.out.alloc _)).mono ?_; rintro r w3 ⟨⟨v3, e3, rfl⟩, hu⟩; obtain ⟨hb3, hu3⟩ := one_up hu; have HB3 := As.mk hb3; obtain ⟨k0, k1, k2, k3, k4, k5, k6, k7⟩ := cells8 hb3; have HU3 := As.mk (HU2.out.trans hu3 (fun _ _ h => h)); clear hu hb3 hu3) | (go_at_call 21; refine (HI.out _ _ HU1.out HS1.out).mono ?_; rintro r w2 ⟨rfl, hu⟩; have HU2 := As.mk (HU1.out.trans hu (fun _ _ h => h)); clear hu) | (go_at_call 13; refine (HH.out w).mono ?_; rintro r w1 ⟨cb1, rfl, hs, hu⟩; have HS1 := As.mk hs; have HU1 := As.mk hu; clear hu hs))
    go_ret
    exact ⟨rfl, HU6.out⟩
set_option maxRecDepth 100000 in
set_option maxHeartbeats 4000000 in
theorem Toggles_in {w : World} {F : Nat → Prop} {A : Option Addr} {c : Nat} {l x : List Tok} {f t : Nat} {k m : Int} (hk : k = 2 ∨ k = 3) (hm : markOne m) (hr : tokR.row w F A l) (hlc : l.length ≤ c) (h1 : l.length ≤ 200) (hft : f < t) (htl : t ≤ l.length) (hne : l ≠ [])
    (hI : ∀ W cb, Pure w W → SchR W cb houseRules houseGroups → Calls Tryz.prog 21 #[.pointer (some ⟨cb, 0, none⟩), .slice A l.length c, .int .i64 (f : Nat), .int .i64 (t : Nat), .int .i64 m] W (fun r w' => r = .returned (.tuple #[markV k f t m, .int .i64 0]) ∧ Pure W w'))
    (hre : remapErr l (markS k f t m) = 0) (hX : stepDo l (markS k f t m) = x) (hxl : x.length = l.length) (hxt : textB x = textB l) (hxa : ∀ i : Nat, f ≤ i → i < t → ∃ z, x[i]? = some z ∧ (z.k = 0 → (0 ≤ z.m ∧ z.m ≤ 4) ∧ (k = 3 → ¬ bitP z.m m) ∧ (k = 2 → bitP z.m m ∨ z.m = 4))) :
    Calls Tryz.prog 5 #[.slice A l.length c, .int .i64 (f : Nat), .int .i64 (t : Nat), .int .i64 m] w (fun r w' => r = .returned (.bool true) ∧ Pure w w') := by
  have HH := As.mk (fun W => House_calls W)
  have HAW := As.mk (fun W => awake12_calls W)
  have i1 : ¬ (200 : Int) < (l.length : Int) := by omega
  have HI := As.mk hI
  have HA1 := As.mk (fun W (hu : Pure w W) => (by
    have := Apply_mark hk hne (Rp.row_pure hr hu) hlc (by omega) hre hX
    rw [hxl] at this
    exact this : Calls Tryz.prog 16 #[.slice A l.length c, markV k f t m] W (fun r w' => (∃ B1, r = .returned (.tuple #[.slice (some B1) l.length l.length, .int .i64 0]) ∧ tokR.row w' (fun _ => True) (some B1) x) ∧ Pure W w')))
  have HT1 := As.mk (fun W (B : Addr) (hrow : tokR.row W (fun _ => True) (some B) x) => (by
    have := Text_calls (c := l.length) hrow (by omega)
    rw [hxt, hxl] at this
    exact this : Calls Tryz.prog 22 #[.slice (some B) l.length l.length] W fun e w' => e = .returned (.string ⟨(textB l).toArray⟩) ∧ Pure W w'))
  have HT2 := As.mk (fun W (hu : Pure w W) => Text_calls (c := c) (Rp.row_pure hr hu) (by omega))
  have HXA := As.mk hxa
  clear hI hr hre hX hxl hxt hxa hne
  generalize textB l = tb at *
  have hkk := hk
  rcases hk with rfl | rfl
  · go_enter Tryz.func5, Tryz.ntmps5
    go_wp2_with (first | (go_at_call 22; first | (refine (HT2.out _ HU5.out).mono ?_; rintro r w6 ⟨rfl, hu⟩; have HU6 := As.mk (HU5.out.trans hu (fun _ _ h => h)); have HX6 := As.mk (Rp.row_pure HX5.out hu); have HSB6 := As.mk ((hu.block _ (lt_of_block HSB5.out) (fun h => h)).trans HSB5.out); clear hu) | (refine (HT1.out _ _ HX3.out).mono ?_; rintro r w5 ⟨rfl, hu⟩; have HU5 := As.mk (HU3.out.trans hu (fun _ _ h => h)); have HX5 := As.mk (Rp.row_pure HX3.out hu); have HSB5 := As.mk ((hu.block _ (lt_of_block HSB3.out) (fun h => h)).trans HSB3.out); clear hu)) | (go_at_call 16; refine (HA1.out _ (HU2.out.alloc _)).mono ?_; rintro r w3 ⟨⟨B3, rfl, hrow⟩, hu⟩; obtain ⟨hsb, hu3⟩ := one_up hu; have HSB3 := As.mk hsb; have HU3 := As.mk (HU2.out.trans hu3 (fun _ _ h => h)); have HX3 := As.mk hrow; clear hu hu3 hsb hrow) | (go_at_call 21; refine (HI.out _ _ HU1.out HS1.out).mono ?_; rintro r w2 ⟨rfl, hu⟩; have HU2 := As.mk (HU1.out.trans hu (fun _ _ h => h)); clear hu) | (go_at_call 13; refine (HH.out w).mono ?_; rintro r w1 ⟨cb1, rfl, hs, hu⟩; have HS1 := As.mk hs; have HU1 := As.mk hu; clear hu hs))
    go_loopg [13] (t - f) (fun g i wr => ∃ n : Nat, f ≤ n ∧ n + g = t ∧ i = .int .i64 (n : Nat) ∧ As (Pure w6 wr))
    case atStart => exact ⟨f, by omega, by omega, rfl, ⟨Upd.refl _ _⟩⟩
    case round =>
      obtain ⟨n, hfn, hnt, rfl, HW⟩ := hrel
      by_cases hlt : n < t
      · obtain ⟨g1, rfl⟩ : ∃ m, gk = m + 1 := ⟨gk - 1, by omega⟩
        obtain ⟨z, hz, hzz⟩ := HXA.out n hfn hlt
        have HSBR := As.mk ((HW.out.block _ (lt_of_block HSB6.out) (fun h => h)).trans HSB6.out)
        obtain ⟨k0, k1, k2, k3, k4, k5, k6, k7⟩ := cells8 HSBR.out
        obtain ⟨bX, oX, hBX, _, hbX, c0, c1, c2, c3⟩ := tok_at (Rp.row_pure HX6.out HW.out) hz
        cases hBX
        have hnl : n < l.length := by omega
        have HPN := As.mk (And.intro hfn hnt)
        by_cases h0 : z.k = 0
        · have HZ := hzz h0
          rw [h0] at c0
          obtain ⟨zm, hzm⟩ : ∃ zm, z.m = zm := ⟨_, rfl⟩
          rw [hzm] at c3 HZ
          have hmm := hm
          clear hz hzz hzm h0 hfn hnt
          rcases hmm with rfl | rfl | rfl <;> rcases five HZ.1 with rfl | rfl | rfl | rfl | rfl
          all_goals first
            | (exfalso; have h9 := (HZ.2.2 (by first | rfl | trivial)); unfold bitP at h9; omega)
            | (clear HZ k1 k2 k3 k4 k5 k6 k7; clear c1 c2; go_wp2; go_roundg g1; (case measure => omega); (case rel => exact ⟨n + 1, by have := HPN.out; omega, by have := HPN.out; omega, by go_num, HW⟩))
        · have e0 : (z.k != 0) = true := by simpa using h0
          clear hz hzz h0 hfn hnt
          go_wp2
          go_roundg g1
          case measure => omega
          case rel => exact ⟨n + 1, by have := HPN.out; omega, by have := HPN.out; omega, by go_num, HW⟩
      · obtain rfl : n = t := by omega
        have HUR := As.mk (HU6.out.trans HW.out (fun _ _ h => h))
        go_wp2_with (go_at_call 12; refine (HAW.out _).mono ?_; rintro r w9 ⟨rfl, hu⟩; have HU9 := As.mk (HUR.out.trans hu (fun _ _ h => h)); clear hu)
        go_ret
        exact ⟨rfl, HU9.out⟩
  · go_enter Tryz.func5, Tryz.ntmps5
    go_wp2_with (first | (go_at_call 22; first | (refine (HT2.out _ HU5.out).mono ?_; rintro r w6 ⟨rfl, hu⟩; have HU6 := As.mk (HU5.out.trans hu (fun _ _ h => h)); have HX6 := As.mk (Rp.row_pure HX5.out hu); have HSB6 := As.mk ((hu.block _ (lt_of_block HSB5.out) (fun h => h)).trans HSB5.out); clear hu) | (refine (HT1.out _ _ HX3.out).mono ?_; rintro r w5 ⟨rfl, hu⟩; have HU5 := As.mk (HU3.out.trans hu (fun _ _ h => h)); have HX5 := As.mk (Rp.row_pure HX3.out hu); have HSB5 := As.mk ((hu.block _ (lt_of_block HSB3.out) (fun h => h)).trans HSB3.out); clear hu)) | (go_at_call 16; refine (HA1.out _ (HU2.out.alloc _)).mono ?_; rintro r w3 ⟨⟨B3, rfl, hrow⟩, hu⟩; obtain ⟨hsb, hu3⟩ := one_up hu; have HSB3 := As.mk hsb; have HU3 := As.mk (HU2.out.trans hu3 (fun _ _ h => h)); have HX3 := As.mk hrow; clear hu hu3 hsb hrow) | (go_at_call 21; refine (HI.out _ _ HU1.out HS1.out).mono ?_; rintro r w2 ⟨rfl, hu⟩; have HU2 := As.mk (HU1.out.trans hu (fun _ _ h => h)); clear hu) | (go_at_call 13; refine (HH.out w).mono ?_; rintro r w1 ⟨cb1, rfl, hs, hu⟩; have HS1 := As.mk hs; have HU1 := As.mk hu; clear hu hs))
    go_loopg [13] (t - f) (fun g i wr => ∃ n : Nat, f ≤ n ∧ n + g = t ∧ i = .int .i64 (n : Nat) ∧ As (Pure w6 wr))
    case atStart => exact ⟨f, by omega, by omega, rfl, ⟨Upd.refl _ _⟩⟩
    case round =>
      obtain ⟨n, hfn, hnt, rfl, HW⟩ := hrel
      by_cases hlt : n < t
      · obtain ⟨g1, rfl⟩ : ∃ m, gk = m + 1 := ⟨gk - 1, by omega⟩
        obtain ⟨z, hz, hzz⟩ := HXA.out n hfn hlt
        have HSBR := As.mk ((HW.out.block _ (lt_of_block HSB6.out) (fun h => h)).trans HSB6.out)
        obtain ⟨k0, k1, k2, k3, k4, k5, k6, k7⟩ := cells8 HSBR.out
        obtain ⟨bX, oX, hBX, _, hbX, c0, c1, c2, c3⟩ := tok_at (Rp.row_pure HX6.out HW.out) hz
        cases hBX
        have hnl : n < l.length := by omega
        have HPN := As.mk (And.intro hfn hnt)
        by_cases h0 : z.k = 0
        · have HZ := hzz h0
          rw [h0] at c0
          obtain ⟨zm, hzm⟩ : ∃ zm, z.m = zm := ⟨_, rfl⟩
          rw [hzm] at c3 HZ
          have hmm := hm
          clear hz hzz hzm h0 hfn hnt
          rcases hmm with rfl | rfl | rfl <;> rcases five HZ.1 with rfl | rfl | rfl | rfl | rfl
          all_goals first
            | (exfalso; have h9 := (HZ.2.1 (by first | rfl | trivial)); unfold bitP at h9; omega)
            | (clear HZ k1 k2 k3 k4 k5 k6 k7; clear c1 c2; go_wp2; go_roundg g1; (case measure => omega); (case rel => exact ⟨n + 1, by have := HPN.out; omega, by have := HPN.out; omega, by go_num, HW⟩))
        · have e0 : (z.k != 0) = true := by simpa using h0
          clear hz hzz h0 hfn hnt
          go_wp2
          go_roundg g1
          case measure => omega
          case rel => exact ⟨n + 1, by have := HPN.out; omega, by have := HPN.out; omega, by go_num, HW⟩
      · obtain rfl : n = t := by omega
        have HUR := As.mk (HU6.out.trans HW.out (fun _ _ h => h))
        go_wp2_with (go_at_call 12; refine (HAW.out _).mono ?_; rintro r w9 ⟨rfl, hu⟩; have HU9 := As.mk (HUR.out.trans hu (fun _ _ h => h)); clear hu)
        go_ret
        exact ⟨rfl, HU9.out⟩
theorem Toggles_walk {w : World} {F : Nat → Prop} {A : Option Addr} {c : Nat} {l : List Tok} {f t m : Int} (hr : tokR.row w F A l) (hlc : l.length ≤ c) (hb : l.length ≤ 1048576 * 4) :
    Calls Tryz.prog 5 #[.slice A l.length c, .int .i64 f, .int .i64 t, .int .i64 m] w (fun r w' => r = .returned (.bool true) ∧ Pure w w') := by
  by_cases h1 : 200 < l.length
  · exact Toggles_no hr hlc hb (.inl h1)
  · by_cases h0 : togErr l f t m = 0
    · obtain ⟨hl, q0, q1, q2, hm, hz, hre⟩ := tog_zero.1 h0
      have hI := fun W cb (hu : Pure w W) (hs : SchR W cb houseRules houseGroups) => Toggle_calls (f := f) (t := t) (m := m) hs (Rp.row_pure hr hu) hlc hb
      rw [h0] at hI
      obtain ⟨f, rfl⟩ := Int.eq_ofNat_of_zero_le q0
      obtain ⟨t, rfl⟩ := Int.eq_ofNat_of_zero_le (Int.le_trans q0 q1)
      have hk := togK_two l f t m
      generalize hK : togK l f t m = k at *
      have hft : f < t := by
        obtain ⟨_, hok⟩ := step_check_zero.1 (remap_zero.1 hre).2.1
        have := ((markS_ok hk).1 hok).2.1
        omega
      have hR := house_rights hl
      obtain ⟨d1, d2, d3⟩ := toggles_plain (l := l) (a := (f : Int)) (b := (t : Int)) hk hm hR ⟨by omega, by omega, by omega⟩
      refine Toggles_in hk hm hr hlc (by omega) hft (by omega) (house_ne hl) hI hre rfl d1 d2 (fun i h8 h9 => ?_)
      obtain ⟨y, hy, hx⟩ := d3 i (by omega) (by omega)
      refine ⟨_, hx, fun h7 => ?_⟩
      have h6 : y.k = 0 := by
        unfold turnT at h7
        split at h7
        · assumption
        · exact h7
      have h5 := right_mark (hR y (List.mem_of_getElem? hy)) h6
      unfold turnT
      rw [if_pos h6]
      exact ⟨turn_in hm h5, fun h4 => by subst h4; exact turn_take hm h5, fun h4 => by subst h4; exact turn_add hm h5⟩
    · exact Toggles_no hr hlc hb (.inr h0)
end Go.Proofs.YteeindicpbcjaaaGreatDoor
