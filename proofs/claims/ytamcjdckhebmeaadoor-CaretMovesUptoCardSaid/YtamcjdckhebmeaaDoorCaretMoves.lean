/- emenderlaw11.CaretMoves. -/
import Derived.Test.YtamcjdckhebmeaaDoorCaretM
import Derived.Test.YtamcjdckhebmeaaDoorCaretN
namespace Go.Proofs.YtamcjdckhebmeaaDoor
open Go.RowKit
set_option linter.unusedVariables false
set_option linter.unusedSimpArgs false

theorem cmay_in {l : List Tok} {p q : Int} (h : cmayV l p = 0) (hq : 0 ≤ q ∧ q ≤ (l.length : Int)) : cmayV l q = 0 := by
  unfold cmayV
  rw [if_neg (by have := (cmay_zero h).1; omega), if_neg (by omega)]
theorem move_step {l : List Tok} {q s : Int} (hs : s = 1 ∨ s = -1) : moveV l q s = stepV l s q := by
  unfold moveV stepV
  rcases hs with rfl | rfl <;> rfl
theorem moveR_at {l : List Tok} {p q n : Int} (h : cmayV l p = 0) (hq : 0 ≤ q ∧ q ≤ (l.length : Int)) : moveR l q n = (moveV l q n, 0) := by
  unfold moveR
  rw [if_neg (by rw [cmay_in h hq]; decide)]
theorem tmod_lt (b : Int) : -9 ≤ b.tmod 10 ∧ b.tmod 10 ≤ 9 := by
  rcases Int.le_total 0 b with h | h
  · rw [Int.tmod_eq_emod_of_nonneg h]; omega
  · have h2 := Int.neg_tmod (a := -b) (b := 10)
    rw [Int.neg_neg, Int.tmod_eq_emod_of_nonneg (a := -b) (by omega)] at h2
    rw [h2]; omega
set_option maxRecDepth 100000 in
set_option maxHeartbeats 4000000 in
theorem CMoves_long {w : World} {F : Nat → Prop} {A : Option Addr} {c : Nat} {l : List Tok} {p b : Int} (hr : tokR.row w F A l) (hl : l.length ≤ 1048576) (h1 : 80 < l.length) :
    Calls Tryd.prog 4 #[.slice A l.length c, .int .i64 p, .int .i8 b] w fun r w' => r = .returned (.bool true) ∧ Pure w w' := by
  have t1 : decide ((l.length : Int) > 80) = true := by simp; omega
  have t2 : decide ((80 : Int) < (l.length : Int)) = true := by simp; omega
  have t3 : decide (80 < l.length) = true := by simp; omega
  clear hr
  go_enter Tryd.func4, Tryd.ntmps4
  go_wp2_with (first | (go_at_call 7; refine (awake11_calls _).mono ?_; rintro r w9 ⟨rfl, hu9⟩; have HU9 := As.mk (HU1.out.trans hu9 (fun _ _ h => h)); clear hu9) | (go_at_call 6; refine (House_calls w).mono ?_; rintro r w1 ⟨cb, rfl, hs, hu⟩; have HU1 := As.mk hu; clear hu hs))
  go_ret
  exact ⟨rfl, HU9.out⟩
set_option maxRecDepth 100000 in
set_option maxHeartbeats 4000000 in
theorem CMoves_err {w : World} {F : Nat → Prop} {A : Option Addr} {c : Nat} {l : List Tok} {p b : Int} (hr : tokR.row w F A l) (hlc : l.length ≤ c) (h1 : l.length ≤ 80) (he : cmayV l p ≠ 0) :
    Calls Tryd.prog 4 #[.slice A l.length c, .int .i64 p, .int .i8 b] w fun r w' => r = .returned (.bool true) ∧ Pure w w' := by
  have ht := tmod_lt b
  have HN := As.mk (fun (W : World) (hu : Pure w W) (q : Nat) (hs : SchR W q houseRules houseGroups) => move_calls (c := c) (p := p) (n := b.tmod 10) hs (Rp.row_pure hr hu) (by omega) hlc (by omega))
  rw [show moveR l p (b.tmod 10) = (0, cmayV l p) by unfold moveR; rw [if_pos he]] at HN
  have c1 : (cmayV l p != 0) = true := by simpa using he
  have t1 : decide ((l.length : Int) > 80) = false := by simp; omega
  have t2 : decide ((80 : Int) < (l.length : Int)) = false := by simp; omega
  have t3 : decide (80 < l.length) = false := by simp; omega
  have w8 : IntKind.i8.wrap (b.tmod 10) = b.tmod 10 := IntWalk.i8_in _ (by omega)
  have w64 : IntKind.i64.wrap (b.tmod 10) = b.tmod 10 := IntWalk.i64_in _ (by omega)
  clear hr he
  obtain ⟨n, hnb⟩ : ∃ n, b.tmod 10 = n := ⟨_, rfl⟩
  rw [hnb] at HN ht w8 w64
  generalize cmayV l p = e2 at *
  go_enter Tryd.func4, Tryd.ntmps4
  go_wp2_with (first | (go_at_call 7; refine (awake11_calls _).mono ?_; rintro r w9 ⟨rfl, hu9⟩; have HU9 := As.mk (HU2.out.trans hu9 (fun _ _ h => h)); clear hu9) | (go_at_call 10; refine (HN.out w1 HU1.out _ HS.out).mono ?_; rintro r w2 ⟨rfl, hu⟩; have HU2 := As.mk (HU1.out.trans hu (fun _ _ h => h)); clear hu) | (go_at_call 6; refine (House_calls w).mono ?_; rintro r w1 ⟨cb, rfl, hs, hu⟩; have HS := As.mk hs; have HU1 := As.mk hu; clear hu hs))
  go_ret
  exact ⟨rfl, HU9.out⟩
set_option maxRecDepth 100000 in
set_option maxHeartbeats 4000000 in
theorem CMoves_ok {w : World} {F : Nat → Prop} {A : Option Addr} {c : Nat} {l : List Tok} {p b : Int} (hr : tokR.row w F A l) (hlc : l.length ≤ c) (h1 : l.length ≤ 80) (he : cmayV l p = 0) :
    Calls Tryd.prog 4 #[.slice A l.length c, .int .i64 p, .int .i8 b] w fun r w' => r = .returned (.bool true) ∧ Pure w w' := by
  have ht := tmod_lt b
  have hp := (cmay_zero he).2
  have HMV := As.mk (fun (q n : Int) (hq : 0 ≤ q ∧ q ≤ (l.length : Int)) (hn : -1000 ≤ n ∧ n ≤ 1000) (W : World) (hu : Pure w W) (k : Nat) (hs : SchR W k houseRules houseGroups) => (by
    have h9 := move_calls (c := c) (p := q) (n := n) hs (Rp.row_pure hr hu) (by omega) hlc hn
    rw [moveR_at he hq] at h9
    exact h9 : Calls Tryd.prog 10 #[.pointer (some ⟨k, 0, none⟩), .slice A l.length c, .int .i64 q, .int .i64 n] W fun r w' => r = .returned (.tuple #[.int .i64 (moveV l q n), .int .i64 0]) ∧ Pure W w'))
  have HST := As.mk (fun (q s : Int) (hs1 : s = 1 ∨ s = -1) (hq : 0 ≤ q ∧ q ≤ (l.length : Int)) (W : World) (hu : Pure w W) (k : Nat) (hs : SchR W k houseRules houseGroups) => (by
    have h9 := HMV.out q s hq (by rcases hs1 with rfl | rfl <;> omega) W hu k hs
    rw [move_step hs1] at h9
    exact h9 : Calls Tryd.prog 10 #[.pointer (some ⟨k, 0, none⟩), .slice A l.length c, .int .i64 q, .int .i64 s] W fun r w' => r = .returned (.tuple #[.int .i64 (stepV l s q), .int .i64 0]) ∧ Pure W w'))
  have HT := As.mk (fun (W : World) (hu : Pure w W) (q : Nat) (hs : SchR W q houseRules houseGroups) (x : Int) => ctext_calls (c := c) (p := x) hs (Rp.row_pure hr hu) (by omega) hlc)
  have t1 : decide ((l.length : Int) > 80) = false := by simp; omega
  have t2 : decide ((80 : Int) < (l.length : Int)) = false := by simp; omega
  have t3 : decide (80 < l.length) = false := by simp; omega
  have w8 : IntKind.i8.wrap (b.tmod 10) = b.tmod 10 := IntWalk.i8_in _ (by omega)
  have w64 : IntKind.i64.wrap (b.tmod 10) = b.tmod 10 := IntWalk.i64_in _ (by omega)
  have wn : IntKind.i64.wrap (-(b.tmod 10)) = -(b.tmod 10) := IntWalk.i64_in _ (by omega)
  obtain ⟨n, hnb⟩ : ∃ n, b.tmod 10 = n := ⟨_, rfl⟩
  rw [hnb] at ht w8 w64 wn
  obtain ⟨p1, hp1⟩ : ∃ p1, moveV l p n = p1 := ⟨_, rfl⟩
  have hp1r : 0 ≤ p1 ∧ p1 ≤ (l.length : Int) := by rw [← hp1]; exact moveV_in hp
  have HM1 := As.mk (fun (W : World) (hu : Pure w W) (k : Nat) (hs : SchR W k houseRules houseGroups) => HMV.out p n hp (by omega) W hu k hs)
  rw [hp1] at HM1
  obtain ⟨N, hN⟩ : ∃ N : Nat, max n (-n) = (N : Int) := ⟨n.natAbs, by omega⟩
  obtain ⟨s, hs⟩ : ∃ s, sideOf n = s := ⟨_, rfl⟩
  have hs1 : s = 1 ∨ s = -1 := by rw [← hs]; exact sideOf_or n
  have HL := As.mk (show lastTake l s N p = p1 by
    rw [← hp1]
    unfold moveV
    split
    · rename_i h0
      have : N = 0 := by omega
      subst this
      rfl
    · rw [hs, show n.natAbs = N by omega])
  have HSN := As.mk (show (decide (n < 0) = true → s = -1) ∧ (decide (n < 0) = false → s = 1) by
    rw [← hs]
    unfold sideOf
    constructor
    · intro h; rw [if_pos (of_decide_eq_true h)]
    · intro h; rw [if_neg (of_decide_eq_false h)])
  have HTO := As.mk (fun (W : World) (hu : Pure w W) (k : Nat) (hs : SchR W k houseRules houseGroups) => HST.out p1 1 (.inl rfl) hp1r W hu k hs)
  obtain ⟨tq, hto⟩ : ∃ tq, stepV l 1 p1 = tq := ⟨_, rfl⟩
  have htor : 0 ≤ tq ∧ tq ≤ (l.length : Int) := by rw [← hto]; exact lastTake_in hp1r
  have HBK := As.mk (fun (W : World) (hu : Pure w W) (k : Nat) (hs : SchR W k houseRules houseGroups) => HST.out tq (-1) (.inr rfl) htor W hu k hs)
  obtain ⟨back, hback⟩ : ∃ back, stepV l (-1) tq = back := ⟨_, rfl⟩
  have HFIN := As.mk (show mayF l p1 = false ∨ tq = p1 ∨ back = p1 by
    cases hm : mayF l p1
    · exact .inl rfl
    · by_cases h : tq = p1
      · exact .inr (.inl h)
      · refine .inr (.inr ?_)
        rw [← hback, ← hto]
        exact there_back hm (by rw [hto]; exact h))
  have HTX := As.mk (fun (W : World) (hu : Pure w W) (k : Nat) (hs : SchR W k houseRules houseGroups) => HT.out W hu k hs p1)
  have htx : textV l p1 = (mayF l p1, 0) := by
    unfold textV
    rw [if_neg (by rw [cmay_in he hp1r]; decide)]
  rw [htx] at HTX
  rw [hto] at HTO
  rw [hback] at HBK
  have HPR := As.mk hp
  clear hr he hp hp1 hp1r HMV HT hto hback htor htx hs
  generalize mayF l p1 = mf at *
  go_enter Tryd.func4, Tryd.ntmps4
  go_wp2_with (first | (go_at_call 10; refine (HM1.out w1' HU1.out _ HS.out).mono ?_; rintro r' w2' ⟨rfl, hu⟩; have HU2 := As.mk (HU1.out.trans hu (fun _ _ h => h)); have HS2 := As.mk (HS.out.pure hu); clear hu) | (go_at_call 6; refine (House_calls w).mono ?_; rintro r' w1' ⟨cb, rfl, hs, hu⟩; have HS := As.mk hs; have HU1 := As.mk hu; clear hu hs))
  go_loopg [11, 12] N (fun gg qv kv wr => ∃ (k : Nat) (q : Int), k + gg = N ∧ kv = .int .i64 k ∧ qv = .int .i64 q ∧ As (lastTake l s (N - k) q = p1 ∧ 0 ≤ q ∧ q ≤ (l.length : Int)) ∧ As (Pure w2' wr))
  case atStart => exact ⟨0, p, by omega, rfl, rfl, ⟨HL.out, HPR.out⟩, ⟨Upd.refl _ _⟩⟩
  case round =>
    obtain ⟨k, q, hk, rfl, rfl, HQ, HP⟩ := hrel
    by_cases hlt : k < N
    · have HSTQ := As.mk (HST.out q s hs1 HQ.out.2)
      have HQ2 := As.mk (show lastTake l s (N - (k + 1)) (stepV l s q) = p1 ∧ 0 ≤ stepV l s q ∧ stepV l s q ≤ (l.length : Int) from ⟨by
        have h9 := HQ.out.1
        rw [show N - k = (N - (k + 1)) + 1 by omega, lastTake_succ l hs1] at h9
        exact h9, lastTake_in HQ.out.2⟩)
      generalize stepV l s q = q2 at *
      obtain ⟨g1, rfl⟩ : ∃ m, gk = m + 1 := ⟨gk - 1, by omega⟩
      have u1 : decide ((k : Int) < (N : Int)) = true := by simpa using hlt
      have u2 : decide (k < N) = true := by simpa using hlt
      have hwk : IntKind.i64.wrap ((k : Int) + 1) = (k : Int) + 1 := IntWalk.i64_in _ (by omega)
      have HK := As.mk hk
      cases b1 : decide (n < 0)
      · obtain rfl := HSN.out.2 b1
        clear hk hlt hs1 HSN
        go_wp2_with (go_at_call 10; refine (HSTQ.out wr (HU2.out.trans HP.out (fun _ _ h => h)) _ (HS2.out.pure HP.out)).mono ?_; rintro r' w4' ⟨rfl, hu⟩; have HP4 := As.mk (HP.out.trans hu (fun _ _ h => h)); clear hu)
        go_roundg g1
        case measure => omega
        case rel => exact ⟨k + 1, q2, by have := HK.out; omega, by go_num, rfl, HQ2, HP4⟩
      · obtain rfl := HSN.out.1 b1
        clear hk hlt hs1 HSN
        go_wp2_with (go_at_call 10; refine (HSTQ.out wr (HU2.out.trans HP.out (fun _ _ h => h)) _ (HS2.out.pure HP.out)).mono ?_; rintro r' w4' ⟨rfl, hu⟩; have HP4 := As.mk (HP.out.trans hu (fun _ _ h => h)); clear hu)
        go_roundg g1
        case measure => omega
        case rel => exact ⟨k + 1, q2, by have := HK.out; omega, by go_num, rfl, HQ2, HP4⟩
    · obtain rfl : k = N := by omega
      have hq : q = p1 := by
        have := HQ.out.1
        rw [Nat.sub_self, lastTake_zero] at this
        exact this
      subst hq
      have HU3 := As.mk (HU2.out.trans HP.out (fun _ _ h => h))
      have HS3 := As.mk (HS2.out.pure HP.out)
      have u1 : decide ((k : Int) < (k : Int)) = false := by simp
      cases b1 : mf <;> cases b2 : decide (tq = q) <;> cases b3 : decide (back = q)
      all_goals first
        | (exfalso; have h2 := of_decide_eq_false b2; have h3 := of_decide_eq_false b3; rcases HFIN.out with h | h | h <;> first | exact absurd (b1.symm.trans h) (by decide) | exact h2 h | exact h3 h)
        | skip
      all_goals
        have c2 : (tq == q) = decide (tq = q) := rfl
        have c3 : (back == q) = decide (back = q) := rfl
        rw [b2] at c2
        rw [b3] at c3
        rw [b1] at HTX
        clear b2 b3 HFIN hk hlt
        go_wp2_with (first | (go_at_call 7; refine (awake11_calls _).mono ?_; rintro r w9 ⟨rfl, hu9⟩; have HU9 := As.mk (HU6.out.trans hu9 (fun _ _ h => h)); clear hu9) | (go_at_call 9; refine (HTX.out w5' HU5.out _ HS5.out).mono ?_; rintro r' w6' ⟨rfl, hu⟩; have HU6 := As.mk (HU5.out.trans hu (fun _ _ h => h)); clear hu) | (go_at_call 10; refine (HBK.out w4' HU4.out _ HS4.out).mono ?_; rintro r' w5' ⟨rfl, hu⟩; have HU5 := As.mk (HU4.out.trans hu (fun _ _ h => h)); have HS5 := As.mk (HS4.out.pure hu); clear hu) | (go_at_call 10; refine (HTO.out wr HU3.out _ HS3.out).mono ?_; rintro r' w4' ⟨rfl, hu⟩; have HU4 := As.mk (HU3.out.trans hu (fun _ _ h => h)); have HS4 := As.mk (HS3.out.pure hu); clear hu))
        go_ret
        exact ⟨rfl, HU9.out⟩
theorem CaretMoves_walk {w : World} {F : Nat → Prop} {A : Option Addr} {c : Nat} {l : List Tok} {p b : Int} (hr : tokR.row w F A l) (hl : l.length ≤ 1048576) (hlc : l.length ≤ c) :
    Calls Tryd.prog 4 #[.slice A l.length c, .int .i64 p, .int .i8 b] w fun r w' => r = .returned (.bool true) ∧ Pure w w' := by
  by_cases h1 : l.length ≤ 80
  · by_cases h2 : cmayV l p = 0
    · exact CMoves_ok hr hlc h1 h2
    · exact CMoves_err hr hlc h1 h2
  · exact CMoves_long hr hl (by omega)
end Go.Proofs.YtamcjdckhebmeaaDoor
