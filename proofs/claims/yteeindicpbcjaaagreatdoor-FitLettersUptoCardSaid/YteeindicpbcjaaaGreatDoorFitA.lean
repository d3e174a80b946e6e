/- fit.may; the ways to fit. -/
import Derived.Test.YteeindicpbcjaaaGreatDoorEdAw
import Derived.Test.YteeindicpbcjaaaGreatDoorPla
import Derived.Test.YteeindicpbcjaaaGreatDoorHolds
namespace Go.Proofs.YteeindicpbcjaaaGreatDoor
open Go.RowKit
set_option linter.unusedVariables false
set_option linter.unusedSimpArgs false

def allR (sl : List Tok) : Prop := ∀ x ∈ sl, rightB x = true
instance (sl : List Tok) : Decidable (allR sl) := by unfold allR; infer_instance
def fmayErr (l : List Tok) (f t : Int) (sl : List Tok) : Int := if placesErr l f t ≠ 0 then placesErr l f t else if ¬ allR sl then 1 else if 2048 < sl.length then 2 else 0
theorem fmay_zero {l : List Tok} {f t : Int} {sl : List Tok} : fmayErr l f t sl = 0 ↔ (houseCheck l).2 = 0 ∧ 0 ≤ f ∧ f ≤ t ∧ t ≤ l.length ∧ allR sl ∧ sl.length ≤ 2048 := by
  unfold fmayErr
  by_cases h0 : placesErr l f t = 0
  · rw [if_neg (by omega)]
    obtain ⟨h1, h2, h3, h4⟩ := places_zero.1 h0
    by_cases h5 : allR sl
    · rw [if_neg (fun h => h h5)]
      by_cases h6 : 2048 < sl.length
      · rw [if_pos h6]
        exact ⟨fun h => absurd h (by decide), fun h => by omega⟩
      · rw [if_neg h6]
        exact ⟨fun _ => ⟨h1, h2, h3, h4, h5, by omega⟩, fun _ => rfl⟩
    · rw [if_pos h5]
      exact ⟨fun h => absurd h (by decide), fun h => absurd h.2.2.2.2.1 h5⟩
  · rw [if_pos h0]
    exact ⟨fun h => absurd h h0, fun h => absurd (places_zero.2 ⟨h.1, h.2.1, h.2.2.1, h.2.2.2.1⟩) h0⟩
set_option maxRecDepth 100000 in
set_option maxHeartbeats 4000000 in
theorem fmay_calls {w : World} {F G : Nat → Prop} {cb : Nat} {A T : Option Addr} {c ct : Nat} {l sl : List Tok} {f t : Int} (h : SchR w cb houseRules houseGroups) (hr : tokR.row w F A l) (hb : l.length ≤ 1048576 * 4) (hx : tokR.row w G T sl) (hxb : sl.length ≤ 1048576 * 4) :
    Calls Tryz.prog 59 #[.pointer (some ⟨cb, 0, none⟩), .slice A l.length c, .int .i64 f, .int .i64 t, .slice T sl.length ct] w (fun r w' => r = .returned (.int .i64 (fmayErr l f t sl)) ∧ Pure w w') := by
  have HC := As.mk (house_check (c := c) h hr hb)
  have HX := As.mk hx
  have HE := As.mk (show fmayErr l f t sl = if placesErr l f t ≠ 0 then placesErr l f t else if ¬ allR sl then 1 else if 2048 < sl.length then 2 else 0 from rfl)
  have HP := As.mk (show placesErr l f t = if (houseCheck l).2 ≠ 0 then (houseCheck l).2 else if f < 0 ∨ t < f ∨ (l.length : Int) < t then 1 else 0 from rfl)
  have HRT := As.mk (fun (x : Tok) (W : World) => flatRight_is (x := x) rfl W)
  clear h hr hx
  generalize fmayErr l f t sl = fe at *
  generalize placesErr l f t = pe at *
  generalize (houseCheck l).2 = e at *
  generalize (houseCheck l).1 = e1 at *
  by_cases h0 : e = 0
  · subst h0
    rw [if_neg (by omega)] at HP
    by_cases hbd : f < 0 ∨ t < f ∨ (l.length : Int) < t
    · rw [if_pos hbd] at HP
      have HF := As.mk (show fe = 1 by rw [HE.out, HP.out]; rfl)
      clear HE HP
      by_cases h1 : f < 0
      · clear hbd
        go_enter Tryz.func59, Tryz.ntmps59
        go_wp2_with (go_at_call 30; refine HC.out.mono ?_; rintro r w1 ⟨rfl, hu⟩; have HU1 := As.mk hu; clear hu)
        go_ret
        exact ⟨(by rw [HF.out]; rfl), HU1.out⟩
      · by_cases h2 : t < f
        · clear hbd
          go_enter Tryz.func59, Tryz.ntmps59
          go_wp2_with (go_at_call 30; refine HC.out.mono ?_; rintro r w1 ⟨rfl, hu⟩; have HU1 := As.mk hu; clear hu)
          go_ret
          exact ⟨(by rw [HF.out]; rfl), HU1.out⟩
        · have h3 : (l.length : Int) < t := by omega
          clear hbd
          go_enter Tryz.func59, Tryz.ntmps59
          go_wp2_with (go_at_call 30; refine HC.out.mono ?_; rintro r w1 ⟨rfl, hu⟩; have HU1 := As.mk hu; clear hu)
          go_ret
          exact ⟨(by rw [HF.out]; rfl), HU1.out⟩
    · rw [if_neg hbd] at HP
      rw [HP.out, if_neg (by decide)] at HE
      have h1 : ¬ f < 0 := by omega
      have h2 : ¬ t < f := by omega
      have h3 : ¬ (l.length : Int) < t := by omega
      clear hbd
      go_enter Tryz.func59, Tryz.ntmps59
      go_wp2_with (go_at_call 30; refine HC.out.mono ?_; rintro r w1 ⟨rfl, hu⟩; have HU1 := As.mk hu; clear hu)
      go_loopg [39] sl.length (fun g i wr => ∃ k : Nat, k + g = sl.length ∧ i = .int .i64 k ∧ As (∀ x ∈ sl.take k, rightB x = true) ∧ As (Pure w wr))
      case atStart => exact ⟨0, by omega, rfl, ⟨by simp⟩, HU1⟩
      case round =>
        obtain ⟨k, hk, rfl, HK, HW⟩ := hrel
        by_cases hlt : k < sl.length
        · obtain ⟨g1, rfl⟩ : ∃ m, gk = m + 1 := ⟨gk - 1, by omega⟩
          obtain ⟨x, hx⟩ : ∃ x, sl[k]? = some x := ⟨_, List.getElem?_eq_getElem hlt⟩
          obtain ⟨b, o, rfl, hF, hbl, c0, c1, c2, c3⟩ := tok_at (Rp.row_pure HX.out HW.out) hx
          have HXK := As.mk hx
          have HKK := As.mk hk
          have HRX := As.mk (HRT.out x)
          clear hx hk
          cases hb9 : rightB x
          · rw [hb9] at HRX
            have HNR := As.mk (show fe = 1 by rw [HE.out, if_pos (fun h => by have := h x (List.mem_of_getElem? HXK.out); rw [hb9] at this; cases this)])
            clear hb9
            go_wp2_with (go_at_call 44; refine (HRX.out _).mono ?_; rintro r w2 ⟨rfl, hu⟩; have HU2 := As.mk ((HW.out.alloc _).trans hu (fun _ _ h => h)); clear hu)
            go_ret
            exact ⟨(by rw [HNR.out]; rfl), HU2.out⟩
          · rw [hb9] at HRX
            have HB9 := As.mk hb9
            clear hb9
            go_wp2_with (go_at_call 44; refine (HRX.out _).mono ?_; rintro r w2 ⟨rfl, hu⟩; have HU2 := As.mk ((HW.out.alloc _).trans hu (fun _ _ h => h)); clear hu)
            go_roundg g1
            case measure => omega
            case rel => exact ⟨k + 1, by have := HKK.out; omega, by go_num, ⟨by rw [List.take_add_one, HXK.out]; intro y hy; rcases List.mem_append.1 hy with hy | hy; exact HK.out y hy; simp at hy; rw [hy]; exact HB9.out⟩, HU2⟩
        · obtain rfl : k = sl.length := by omega
          rw [List.take_length] at HK
          rw [if_neg (fun h => h HK.out)] at HE
          by_cases hl : 2048 < sl.length
          · have hl' : (2048 : Int) < (sl.length : Int) := by omega
            rw [if_pos hl] at HE
            go_wp2
            go_ret
            exact ⟨(by rw [HE.out]; rfl), HW.out⟩
          · have hl' : ¬ (2048 : Int) < (sl.length : Int) := by omega
            rw [if_neg hl] at HE
            go_wp2
            go_ret
            exact ⟨(by rw [HE.out]; rfl), HW.out⟩
  · have f0 : (e != 0) = true := by simpa using h0
    rw [if_pos h0] at HP
    have HF := As.mk (show fe = e by rw [HE.out, HP.out, if_pos h0])
    clear h0 HE HP
    go_enter Tryz.func59, Tryz.ntmps59
    go_wp2_with (go_at_call 30; refine HC.out.mono ?_; rintro r w1 ⟨rfl, hu⟩; have HU1 := As.mk hu; clear hu)
    go_ret
    exact ⟨(by rw [HF.out]; rfl), HU1.out⟩
/-- What a way fits. -/
def WayR (w : World) (xs : List Tok) (r : Ending) (w' : World) : Prop := ∃ T ct, r = .returned (.slice T xs.length ct) ∧ tokR.row w' (fun _ => True) T xs ∧ xs.length ≤ ct ∧ Pure w w'
set_option maxRecDepth 100000 in
set_option maxHeartbeats 4000000 in
theorem same_fit {w : World} {G : Nat → Prop} {T : Option Addr} {ct : Nat} {sl : List Tok} (hx : tokR.row w G T sl) (hc : sl.length ≤ ct) : Calls Tryz.prog 144 #[.agg #[], .slice T sl.length ct] w (WayR w sl) := by
  have HX := As.mk hx
  clear hx
  unfold WayR
  go_enter Tryz.func144, Tryz.ntmps144
  go_wp2
  go_ret
  exact ⟨_, _, rfl, Rp.row_fp (Rp.row_pure HX.out (Upd.alloc1 _ _ _)) (fun _ _ => trivial), hc, Upd.alloc1 _ _ _⟩
set_option maxRecDepth 100000 in
set_option maxHeartbeats 4000000 in
theorem closed_fit {w : World} {G : Nat → Prop} {T : Option Addr} {ct : Nat} {sl : List Tok} (hx : tokR.row w G T sl) (hb : sl.length ≤ 1048576 * 2) : Calls Tryz.prog 145 #[.agg #[], .slice T sl.length ct] w (WayR w (closed sl)) := by
  have HC := As.mk (Closed_calls (c := ct) (Rp.row_pure hx (Upd.alloc1 (fun _ => False) w (.cells #[] 115))) hb)
  clear hx
  unfold WayR
  go_enter Tryz.func145, Tryz.ntmps145
  go_wp2_with (go_at_call 58; refine HC.out.mono ?_; rintro r w1 ⟨v, rfl, ho, hu⟩; obtain ⟨A1, c1, rfl, hc1, hrow⟩ := Rp.own_slice ho; have HU1 := As.mk ((Upd.alloc1 _ _ _).trans hu (fun _ _ h => h)); have HR1 := As.mk hrow; clear ho hu hrow)
  go_ret
  exact ⟨_, _, rfl, Rp.row_fp HR1.out (fun _ _ => trivial), hc1, HU1.out⟩
set_option maxRecDepth 100000 in
set_option maxHeartbeats 4000000 in
theorem nothing_fit {w : World} {T : Option Addr} {n ct : Nat} : Calls Tryz.prog 149 #[.agg #[], .slice T n ct] w (WayR w []) := by
  unfold WayR
  go_enter Tryz.func149, Tryz.ntmps149
  go_wp2
  go_ret
  exact ⟨none, 0, rfl, .inl rfl, Nat.le_refl _, Upd.alloc1 _ _ _⟩
set_option maxRecDepth 100000 in
set_option maxHeartbeats 4000000 in
theorem plain_fit {w : World} {G : Nat → Prop} {T : Option Addr} {ct : Nat} {sl : List Tok} {s : Spec} {held : Bool} (hx : tokR.row w G T sl) (hb : sl.length ≤ 1048576) : Calls Tryz.prog 146 #[.agg #[.string s.name, .string s.expr, .bool s.leaf, .int .i64 s.marks, .int .i64 s.least, .int .i64 s.most, .bool s.lines, .bool held], .slice T sl.length ct] w (WayR w (if held then plain sl s else [])) := by
  cases held
  · have key : Calls Tryz.prog 146 #[.agg #[.string s.name, .string s.expr, .bool s.leaf, .int .i64 s.marks, .int .i64 s.least, .int .i64 s.most, .bool s.lines, .bool false], .slice T sl.length ct] w (fun r w' => r = .returned (.slice none 0 0) ∧ Pure w w') := by
      clear hx
      go_enter Tryz.func146, Tryz.ntmps146
      go_wp2
      go_ret
      exact ⟨rfl, Upd.alloc1 _ _ _⟩
    exact key.mono fun r w' ⟨h1, h2⟩ => ⟨none, 0, h1, .inl rfl, Nat.le_refl _, h2⟩
  · have HC := As.mk (fun W (hu : Pure w W) => Plain_calls (c := ct) (s := s) (Rp.row_pure hx hu) hb)
    clear hx
    unfold WayR Spec.val at *
    rw [if_pos rfl]
    go_enter Tryz.func146, Tryz.ntmps146
    go_wp2_with (go_at_call 147; refine (HC.out _ (Upd.alloc1 _ _ _)).mono ?_; rintro r w1 ⟨v, rfl, ho, hu⟩; obtain ⟨A1, c1, rfl, hc1, hrow⟩ := Rp.own_slice ho; have HU1 := As.mk ((Upd.alloc1 _ _ _).trans hu (fun _ _ h => h)); have HR1 := As.mk hrow; clear ho hu hrow)
    go_ret
    exact ⟨_, _, rfl, Rp.row_fp HR1.out (fun _ _ => trivial), hc1, HU1.out⟩
end Go.Proofs.YteeindicpbcjaaaGreatDoor
