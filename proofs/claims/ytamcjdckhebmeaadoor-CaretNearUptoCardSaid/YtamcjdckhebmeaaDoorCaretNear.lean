/- emenderlaw11.CaretNear. -/
import Derived.Test.YtamcjdckhebmeaaDoorCaretN
namespace Go.Proofs.YtamcjdckhebmeaaDoor
open Go.RowKit
set_option linter.unusedVariables false
set_option linter.unusedSimpArgs false

theorem near_err {l : List Tok} {p side : Int} (h : (nearR l p side).2 ≠ 0) : (nearR l p side).1 = 0 := by
  unfold nearR at h ⊢
  split
  · rfl
  · rename_i h1
    rw [if_neg h1] at h
    unfold nearV at h ⊢
    split
    · rfl
    · rename_i h2
      rw [if_neg h2] at h
      exact absurd (by split <;> rfl) h
theorem near_ok {l : List Tok} {p side : Int} (h : (nearR l p side).2 = 0) : cmayV l p = 0 ∧ mayF l (nearR l p side).1 = true ∧ ∀ q : Int, p - max ((nearR l p side).1 - p) (p - (nearR l p side).1) < q → q < p + max ((nearR l p side).1 - p) (p - (nearR l p side).1) → mayF l q = false := by
  unfold nearR at h ⊢
  by_cases h1 : cmayV l p ≠ 0
  · rw [if_pos h1] at h
    exact absurd h h1
  · rw [if_neg h1] at h ⊢
    have h0 : cmayV l p = 0 := by omega
    refine ⟨h0, ?_⟩
    rcases near_spec l (p := p) (side := side) (cmay_zero h0).2 with h2 | ⟨_, h2, h3⟩
    · rw [h2] at h
      cases h
    · exact ⟨h2, h3⟩
theorem text_at {l : List Tok} {p q : Int} (h : cmayV l p = 0) (hq : 0 ≤ q ∧ q ≤ (l.length : Int)) : textV l q = (mayF l q, 0) := by
  unfold textV
  have h1 : cmayV l q = 0 := by
    unfold cmayV
    rw [if_neg (by have := (cmay_zero h).1; omega), if_neg (by omega)]
  rw [if_neg (by omega)]
set_option maxRecDepth 100000 in
set_option maxHeartbeats 4000000 in
theorem CNear_long {w : World} {F : Nat → Prop} {A : Option Addr} {c : Nat} {l : List Tok} {p side : Int} (hr : tokR.row w F A l) (hl : l.length ≤ 1048576) (h1 : 80 < l.length) :
    Calls Tryd.prog 3 #[.slice A l.length c, .int .i64 p, .int .i64 side] w fun r w' => r = .returned (.bool true) ∧ Pure w w' := by
  have t1 : decide ((l.length : Int) > 80) = true := by simp; omega
  have t2 : decide ((80 : Int) < (l.length : Int)) = true := by simp; omega
  have t3 : decide (80 < l.length) = true := by simp; omega
  clear hr
  go_enter Tryd.func3, Tryd.ntmps3
  go_wp2_with (first | (go_at_call 7; refine (awake11_calls _).mono ?_; rintro r w9 ⟨rfl, hu9⟩; have HU9 := As.mk (HU1.out.trans hu9 (fun _ _ h => h)); clear hu9) | (go_at_call 6; refine (House_calls w).mono ?_; rintro r w1 ⟨cb, rfl, hs, hu⟩; have HU1 := As.mk hu; clear hu hs))
  go_ret
  exact ⟨rfl, HU9.out⟩
set_option maxRecDepth 100000 in
set_option maxHeartbeats 4000000 in
theorem CNear_err {w : World} {F : Nat → Prop} {A : Option Addr} {c : Nat} {l : List Tok} {p side : Int} (hr : tokR.row w F A l) (hlc : l.length ≤ c) (h1 : l.length ≤ 80) (he : (nearR l p side).2 ≠ 0) :
    Calls Tryd.prog 3 #[.slice A l.length c, .int .i64 p, .int .i64 side] w fun r w' => r = .returned (.bool true) ∧ Pure w w' := by
  have HN := As.mk (fun (W : World) (hu : Pure w W) (q : Nat) (hs : SchR W q houseRules houseGroups) => near_calls (c := c) (p := p) (side := side) hs (Rp.row_pure hr hu) (by omega) hlc)
  rw [near_err he] at HN
  have c1 : ((nearR l p side).2 != 0) = true := by simpa using he
  have t1 : decide ((l.length : Int) > 80) = false := by simp; omega
  have t2 : decide ((80 : Int) < (l.length : Int)) = false := by simp; omega
  have t3 : decide (80 < l.length) = false := by simp; omega
  clear hr he
  generalize (nearR l p side).2 = e2 at *
  go_enter Tryd.func3, Tryd.ntmps3
  go_wp2_with (first | (go_at_call 7; refine (awake11_calls _).mono ?_; rintro r w9 ⟨rfl, hu9⟩; have HU9 := As.mk (HU2.out.trans hu9 (fun _ _ h => h)); clear hu9) | (go_at_call 8; refine (HN.out w1 HU1.out _ HS.out).mono ?_; rintro r w2 ⟨rfl, hu⟩; have HU2 := As.mk (HU1.out.trans hu (fun _ _ h => h)); clear hu) | (go_at_call 6; refine (House_calls w).mono ?_; rintro r w1 ⟨cb, rfl, hs, hu⟩; have HS := As.mk hs; have HU1 := As.mk hu; clear hu hs))
  go_ret
  exact ⟨rfl, HU9.out⟩
set_option maxRecDepth 100000 in
set_option maxHeartbeats 4000000 in
theorem CNear_ok {w : World} {F : Nat → Prop} {A : Option Addr} {c : Nat} {l : List Tok} {p side : Int} (hr : tokR.row w F A l) (hlc : l.length ≤ c) (h1 : l.length ≤ 80) (he : (nearR l p side).2 = 0) :
    Calls Tryd.prog 3 #[.slice A l.length c, .int .i64 p, .int .i64 side] w fun r w' => r = .returned (.bool true) ∧ Pure w w' := by
  have HN := As.mk (fun (W : World) (hu : Pure w W) (q : Nat) (hs : SchR W q houseRules houseGroups) => near_calls (c := c) (p := p) (side := side) hs (Rp.row_pure hr hu) (by omega) hlc)
  have HT := As.mk (fun (W : World) (hu : Pure w W) (q : Nat) (hs : SchR W q houseRules houseGroups) (x : Int) => ctext_calls (c := c) (p := x) hs (Rp.row_pure hr hu) (by omega) hlc)
  obtain ⟨h0, hm, hnone⟩ := near_ok he
  have hp := (cmay_zero h0).2
  rw [he] at HN
  generalize (nearR l p side).1 = r at *
  have hrr := mayF_in hm
  obtain ⟨d, hd⟩ : ∃ d, max (r - p) (p - r) = d := ⟨_, rfl⟩
  rw [hd] at hnone
  obtain ⟨q0, hq0⟩ : ∃ q0, max (p - d + 1) 0 = q0 := ⟨_, rfl⟩
  have HT1 := As.mk (fun (W : World) (hu : Pure w W) (q : Nat) (hs : SchR W q houseRules houseGroups) => HT.out W hu q hs r)
  rw [text_at h0 hrr, hm] at HT1
  have HT2 := As.mk (fun (x : Int) (h : (p - d < x ∧ x < p + d) ∧ 0 ≤ x ∧ x ≤ (l.length : Int)) (W : World) (hu : Pure w W) (q : Nat) (hs : SchR W q houseRules houseGroups) => (by
    have h9 := HT.out W hu q hs x
    rw [text_at h0 h.2, hnone x h.1.1 h.1.2] at h9
    exact h9 : Calls Tryd.prog 9 #[.pointer (some ⟨q, 0, none⟩), .slice A l.length c, .int .i64 x] W fun r w' => r = .returned (.tuple #[.bool false, .int .i64 0]) ∧ Pure W w'))
  have HD := As.mk (show (0 ≤ d ∧ d ≤ 80) ∧ p - d + 1 ≤ q0 ∧ 0 ≤ q0 ∧ q0 ≤ 81 by omega)
  have t1 : decide ((l.length : Int) > 80) = false := by simp; omega
  have t2 : decide ((80 : Int) < (l.length : Int)) = false := by simp; omega
  have t3 : decide (80 < l.length) = false := by simp; omega
  have w1 : IntKind.i64.wrap (r - p) = r - p := IntWalk.i64_in _ (by omega)
  have w2 : IntKind.i64.wrap (p - r) = p - r := IntWalk.i64_in _ (by omega)
  have w3 : IntKind.i64.wrap (p - d) = p - d := IntWalk.i64_in _ (by have := HD.out; omega)
  have w4 : IntKind.i64.wrap (p - d + 1) = p - d + 1 := IntWalk.i64_in _ (by have := HD.out; omega)
  have w5 : IntKind.i64.wrap (p + d) = p + d := IntWalk.i64_in _ (by have := HD.out; omega)
  have HPR := As.mk hp
  clear hr he h0 hm hnone hrr HT hp
  go_enter Tryd.func3, Tryd.ntmps3
  go_wp2_with (first | (go_at_call 9; refine (HT1.out w2' HU2.out _ HS2.out).mono ?_; rintro r' w3' ⟨rfl, hu⟩; have HU3 := As.mk (HU2.out.trans hu (fun _ _ h => h)); have HS3 := As.mk (HS2.out.pure hu); clear hu) | (go_at_call 8; refine (HN.out w1' HU1.out _ HS.out).mono ?_; rintro r' w2' ⟨rfl, hu⟩; have HU2 := As.mk (HU1.out.trans hu (fun _ _ h => h)); have HS2 := As.mk (HS.out.pure hu); clear hu) | (go_at_call 6; refine (House_calls w).mono ?_; rintro r' w1' ⟨cb, rfl, hs, hu⟩; have HS := As.mk hs; have HU1 := As.mk hu; clear hu hs))
  go_loopg [13] 200 (fun gg qv wr => ∃ q : Int, qv = .int .i64 q ∧ As (p + d - q ≤ gg ∧ q0 ≤ q ∧ q ≤ 200) ∧ As (Pure w3' wr))
  case atStart => exact ⟨q0, rfl, ⟨by have := HD.out; have := HPR.out; omega, by omega, by have := HD.out; omega⟩, ⟨Upd.refl _ _⟩⟩
  case round =>
    obtain ⟨q, rfl, HQ, HP⟩ := hrel
    cases b1 : decide (q < p + d) <;> cases b2 : decide (q ≤ (l.length : Int))
    all_goals first
      | skip
    · go_wp2_with (go_at_call 7; refine (awake11_calls _).mono ?_; rintro r w9 ⟨rfl, hu9⟩; have HU9 := As.mk ((HU3.out.trans HP.out (fun _ _ h => h)).trans hu9 (fun _ _ h => h)); clear hu9)
      go_ret
      exact ⟨rfl, HU9.out⟩
    · go_wp2_with (go_at_call 7; refine (awake11_calls _).mono ?_; rintro r w9 ⟨rfl, hu9⟩; have HU9 := As.mk ((HU3.out.trans HP.out (fun _ _ h => h)).trans hu9 (fun _ _ h => h)); clear hu9)
      go_ret
      exact ⟨rfl, HU9.out⟩
    · go_wp2_with (go_at_call 7; refine (awake11_calls _).mono ?_; rintro r w9 ⟨rfl, hu9⟩; have HU9 := As.mk ((HU3.out.trans HP.out (fun _ _ h => h)).trans hu9 (fun _ _ h => h)); clear hu9)
      go_ret
      exact ⟨rfl, HU9.out⟩
    · have hq1 := of_decide_eq_true b1
      have hq2 := of_decide_eq_true b2
      have HQ2 := As.mk (show (p - d < q ∧ q < p + d) ∧ 0 ≤ q ∧ q ≤ (l.length : Int) by have := HQ.out; have := HD.out; omega)
      have HT3 := As.mk (HT2.out q HQ2.out)
      obtain ⟨g1, rfl⟩ : ∃ m, gk = m + 1 := ⟨gk - 1, by have := HQ.out; omega⟩
      have wq : IntKind.i64.wrap (q + 1) = q + 1 := IntWalk.i64_in _ (by have := HQ2.out; omega)
      clear hq1 hq2
      go_wp2_with (go_at_call 9; refine (HT3.out wr (HU3.out.trans HP.out (fun _ _ h => h)) _ (HS3.out.pure HP.out)).mono ?_; rintro r' w4' ⟨rfl, hu⟩; have HP4 := As.mk (HP.out.trans hu (fun _ _ h => h)); clear hu)
      go_roundg g1
      case measure => omega
      case rel => exact ⟨q + 1, rfl, ⟨by have := HQ.out; omega, by have := HQ.out; omega, by have := HQ2.out; omega⟩, HP4⟩
theorem CaretNear_walk {w : World} {F : Nat → Prop} {A : Option Addr} {c : Nat} {l : List Tok} {p side : Int} (hr : tokR.row w F A l) (hl : l.length ≤ 1048576) (hlc : l.length ≤ c) :
    Calls Tryd.prog 3 #[.slice A l.length c, .int .i64 p, .int .i64 side] w fun r w' => r = .returned (.bool true) ∧ Pure w w' := by
  by_cases h1 : l.length ≤ 80
  · by_cases h2 : (nearR l p side).2 = 0
    · exact CNear_ok hr hlc h1 h2
    · exact CNear_err hr hlc h1 h2
  · exact CNear_long hr hl (by omega)
end Go.Proofs.YtamcjdckhebmeaaDoor
