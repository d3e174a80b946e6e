/- FitLetters: the law's walk. -/
import Derived.Test.YteeindicpbcjaaaGreatDoorFitValid
import Derived.Test.YteeindicpbcjaaaGreatDoorLetP
import Derived.Test.YteeindicpbcjaaaGreatDoorOpenB
namespace Go.Proofs.YteeindicpbcjaaaGreatDoor
open Go.RowKit
set_option linter.unusedVariables false
set_option linter.unusedSimpArgs false

def letL (bs : List Int) : List Tok := bs.map (fun x => ⟨0, 0, 97 + x % 26, 0⟩)
theorem letL_is {bs : List Int} : ∀ x ∈ letL bs, isLet x := by
  intro x hx
  obtain ⟨b, _, rfl⟩ := List.mem_map.1 hx
  refine ⟨rfl, rfl, rfl, ?_, ?_⟩
  · show 97 ≤ 97 + b % 26
    omega
  · show 97 + b % 26 ≤ 122
    omega
theorem letL_snoc {bs : List Int} {k : Nat} {x : Int} (hx : bs[k]? = some x) : letL (bs.take (k + 1)) = letL (bs.take k) ++ [⟨0, 0, 97 + x % 26, 0⟩] := by
  unfold letL
  rw [List.take_add_one, hx, List.map_append]
  rfl
theorem may_any {w : World} {F : Nat → Prop} {A : Option Addr} {c : Nat} {l : List Tok} {p : Int} (hr : tokR.row w F A l) (h1 : l.length ≤ 200) (hlc : l.length ≤ c) :
    ∃ mb : Bool, (∀ (W : World), Pure w W → ∀ q, SchR W q houseRules houseGroups → Calls Tryz.prog 34 #[.pointer (some ⟨q, 0, none⟩), .slice A l.length c, .int .i64 p, .int .i64 0] W fun r w' => r = .returned (.bool mb) ∧ Pure W w') ∧
      (mb = true → (houseCheck l).2 = 0 ∧ ∃ n : Nat, p = (n : Int) ∧ n ≤ l.length ∧ (houseCheck (l.take n ++ letter :: l.drop n)).2 = 0) := by
  by_cases hno : (houseCheck l).2 ≠ 0 ∨ p < 0 ∨ (l.length : Int) < p
  · exact ⟨false, fun W hu q hs => May_no hs (Rp.row_pure hr hu) (by omega) hno, fun h => by cases h⟩
  · have ok : (houseCheck l).2 = 0 := by
      by_cases h : (houseCheck l).2 = 0
      · exact h
      · exact absurd (.inl h) hno
    obtain ⟨n, rfl⟩ := Int.eq_ofNat_of_zero_le (show 0 ≤ p by by_cases h : p < 0; exact absurd (.inr (.inl h)) hno; omega)
    have hn : n ≤ l.length := by
      by_cases h : (l.length : Int) < (n : Int)
      · exact absurd (.inr (.inr h)) hno
      · omega
    obtain ⟨R, hP⟩ := at_place ok h1 hn
    refine ⟨decide ((houseCheck (l.take n ++ letter :: l.drop n)).2 = 0), fun W hu q hs => ?_, fun h => ⟨ok, n, rfl, hn, of_decide_eq_true h⟩⟩
    have := May_ok (t := 0) hs (Rp.row_pure hr hu) (by omega) hlc ok hn hP
    rw [may_iff hP] at this
    exact this
set_option maxRecDepth 100000 in
set_option maxHeartbeats 4000000 in
theorem FitLetters_go {w : World} {F G : Nat → Prop} {A T : Option Addr} {c ct : Nat} {l : List Tok} {bs : List Int} {p : Int} (hr : tokR.row w F A l) (hlc : l.length ≤ c) (hx : byteR.row w G T bs) (hw : ∀ x ∈ bs, 0 ≤ x ∧ x ≤ 255) (h1 : l.length ≤ 200) (h2 : bs.length ≤ 100) :
    Calls Tryz.prog 11 #[.slice A l.length c, .int .i64 p, .slice T bs.length ct] w (fun r w' => r = .returned (.bool true) ∧ Pure w w') := by
  have HH := As.mk (fun W => House_calls W)
  have HAW := As.mk (fun W => awake13_calls W)
  have i1 : ¬ (200 : Int) < (l.length : Int) := by omega
  have i2 : ¬ (100 : Int) < (bs.length : Int) := by omega
  have HX := As.mk hx
  have HWF := As.mk hw
  clear hx hw
  go_enter Tryz.func11, Tryz.ntmps11
  go_wp2_with (go_at_call 13; refine (HH.out _).mono ?_; rintro r w1 ⟨cb1, rfl, hs, hu⟩; have HS1 := As.mk hs; have HU1 := As.mk hu; clear hu hs)
  go_loopg [8, 9] bs.length (fun g v i wr => ∃ k : Nat, k + g = bs.length ∧ i = .int .i64 (k : Nat) ∧ As (tokR.own 40 wr (fun q => w1.heap.size ≤ q) v (letL (bs.take k))) ∧ As (Pure w1 wr))
  case atStart => exact ⟨0, by omega, rfl, ⟨Rp.own_nil _ _ _ _⟩, ⟨Upd.refl _ _⟩⟩
  case round =>
    obtain ⟨k, hk, rfl, HO, HW⟩ := hrel
    by_cases hlt : k < bs.length
    · obtain ⟨g1, rfl⟩ : ∃ m, gk = m + 1 := ⟨gk - 1, by omega⟩
      obtain ⟨x, hxk⟩ : ∃ x, bs[k]? = some x := ⟨_, List.getElem?_eq_getElem hlt⟩
      obtain ⟨b, o, rfl, hbl, c0⟩ := byte_at (Rp.row_pure HX.out (HU1.out.trans HW.out (fun _ _ h => h))) hxk
      obtain ⟨x0, x255⟩ := HWF.out x (List.mem_of_getElem? hxk)
      have HXK := As.mk (letL_snoc hxk)
      have HKK := As.mk hk
      clear hxk hk
      go_wp2_with (at_builtin; refine Rp.own_append tokR HO.out (⟨0, 0, 97 + x % 26, 0⟩ : Tok) (⟨0, 0, 97 + x % 26, 0⟩ : Tok).cs rfl (Fp := fun _ => False) (G := fun q => w1.heap.size ≤ q) (fun _ h => h.elim) (fun _ h _ => h) (fun q hq => by have := HW.out.size; omega) rfl _ _ 22 _ 32 rfl Tryz.underlying22 tok_info rfl (by decide) (by decide) rfl (by simp [Act.eval]) (by unfold letL; rw [List.length_map, List.length_take]; omega) ?_; intro v1 w3 ho1 hu1; have HO3 := As.mk ho1; have HP3 := As.mk (Upd.trans HW.out hu1 (fun q hq h => by have := Rp.own_block_lt HO.out q h; omega)); clear ho1 hu1)
      go_roundg g1
      case measure => omega
      case rel => exact ⟨k + 1, by have := HKK.out; omega, by go_num, ⟨by rw [HXK.out]; exact HO3.out⟩, HP3⟩
    · obtain rfl : k = bs.length := by omega
      rw [List.take_length] at HO
      have HLT := As.mk (letL_is (bs := bs))
      have HLL := As.mk (show (letL bs).length ≤ 100 by unfold letL; rw [List.length_map]; exact h2)
      obtain ⟨A1, c1, rfl, hc1, hrow⟩ := Rp.own_slice HO.out
      have HRT := As.mk (Rp.row_fp (G := fun _ => True) hrow (fun _ _ => trivial))
      have HUR := As.mk (HU1.out.trans HW.out (fun _ _ h => h))
      have HSR := As.mk (HS1.out.pure HW.out)
      obtain ⟨mb, hmay, hmb⟩ := may_any (p := p) hr h1 hlc
      have HMY := As.mk hmay
      have HMB := As.mk hmb
      have HI := As.mk (Fit_calls (f := p) (t := p) (ct := c1) HSR.out (Rp.row_pure hr HUR.out) hlc h1 HRT.out hc1 (by have := HLL.out; omega))
      have HFZ := As.mk (show (houseCheck l).2 = 0 → ∀ n : Nat, p = (n : Int) → n ≤ l.length → (houseCheck (l.take n ++ letter :: l.drop n)).2 = 0 → fmayErr l p p (letL bs) = 0 ∧ remapErr l (repl p p (letL bs)) = 0 by
        rintro ok n rfl hn hput
        exact ⟨fmay_zero.2 ⟨ok, by omega, by omega, by omega, fun x hx => let_right (HLT.out x hx), by have := HLL.out; omega⟩, lets_remap ok h1 hn hput HLT.out HLL.out⟩)
      unfold FitR at HI
      generalize letL bs = text at *
      clear hr hrow hmay hmb HO hk
      go_wp2_with (go_at_call 32; refine HI.out.mono ?_; rintro r w2 ⟨s, B, c', n, e, rfl, hu, hrow, hcs, hbs, hz, h0, h9⟩; have HU2 := As.mk (HUR.out.trans hu (fun _ _ h => h)); have HS2 := As.mk (HSR.out.pure hu); have HT2 := As.mk (Rp.row_pure HRT.out hu); have HR2 := As.mk (Rp.row_fp (G := fun _ => True) hrow (fun _ _ => trivial)); have HX2 := As.mk (And.intro hcs hbs); have HZ2 := As.mk hz; have H02 := As.mk h0; have H92 := As.mk h9; clear hu hrow hcs hbs hz h0 h9; apply As.out)
      refine ⟨?_⟩
      cases hmb : mb
      · rw [hmb] at HMY
        by_cases he : e = 0
        · have g1 : decide (n ≥ 1) = true := by simpa using (H02.out he).2.2.2.1
          subst he
          clear H02 HZ2 H92 HX2 HMB HFZ hmb
          generalize s.k = sk at *
          generalize s.fr = sfr at *
          generalize s.tt = stt at *
          generalize s.gf = sgf at *
          generalize s.gt = sgt at *
          generalize s.ins = sins at *
          generalize s.mark = smark at *
          go_wp2_with (first | (go_at_call 31; refine (HAW.out _).mono ?_; rintro r w5 ⟨rfl, hu⟩; have HU5 := As.mk (HU3.out.trans hu (fun _ _ h => h)); clear hu) | (go_at_call 34; refine (HMY.out _ (HU2.out.alloc _) _ (HS2.out.pure (Upd.alloc1 _ _ _))).mono ?_; rintro r w3 ⟨rfl, hu⟩; have HU3 := As.mk ((HU2.out.alloc _).trans hu (fun _ _ h => h)); clear hu))
          go_ret
          exact ⟨rfl, HU5.out⟩
        · have g1 : (e != 0) = true := by simpa using he
          clear H02 HZ2 H92 HX2 HMB HFZ hmb he
          generalize s.k = sk at *
          generalize s.fr = sfr at *
          generalize s.tt = stt at *
          generalize s.gf = sgf at *
          generalize s.gt = sgt at *
          generalize s.ins = sins at *
          generalize s.mark = smark at *
          go_wp2_with (first | (go_at_call 31; refine (HAW.out _).mono ?_; rintro r w5 ⟨rfl, hu⟩; have HU5 := As.mk (HU3.out.trans hu (fun _ _ h => h)); clear hu) | (go_at_call 34; refine (HMY.out _ (HU2.out.alloc _) _ (HS2.out.pure (Upd.alloc1 _ _ _))).mono ?_; rintro r w3 ⟨rfl, hu⟩; have HU3 := As.mk ((HU2.out.alloc _).trans hu (fun _ _ h => h)); clear hu))
          go_ret
          exact ⟨rfl, HU5.out⟩
      · obtain ⟨ok, n', hp, hn', hput⟩ := HMB.out hmb
        obtain ⟨z1, z2⟩ := HFZ.out ok n' hp hn' hput
        obtain ⟨rfl, rfl⟩ := H92.out z1 z2
        obtain ⟨y1, y2, ⟨xs, rfl⟩, y3, y4, y5, hsl⟩ := H02.out rfl
        obtain rfl : xs = text := hsl rfl
        clear y1 y2 y3 y4 y5
        rw [hmb] at HMY
        have HR2' := As.mk (show tokR.row w2 (fun _ => True) B xs from HR2.out)
        have HAL := As.mk (fun W (h1 : tokR.row W (fun _ => True) B xs) (h2 : tokR.row W (fun _ => True) A1 xs) => Alike13_same (c := c') (c' := c1) h1 h2 (by have := HLL.out; omega))
        simp only [show (repl p p xs).k = 0 from rfl, show (repl p p xs).fr = p from rfl, show (repl p p xs).tt = p from rfl, show (repl p p xs).gf = 0 from rfl, show (repl p p xs).gt = 0 from rfl, show (repl p p xs).ins = 0 from rfl, show (repl p p xs).mark = 0 from rfl, show (repl p p xs).sl = xs from rfl]
        clear H02 HZ2 H92 HX2 HMB HFZ hmb z1 z2 ok hput hp hn' HR2 hsl
        go_wp2_with (first | (go_at_call 31; refine (HAW.out _).mono ?_; rintro r w5 ⟨rfl, hu⟩; have HU5 := As.mk (HU4.out.trans hu (fun _ _ h => h)); clear hu) | (go_at_call 35; refine (HAL.out _ HB3.out HT3.out).mono ?_; rintro r w4 ⟨rfl, hu⟩; have HU4 := As.mk (HU3.out.trans hu (fun _ _ h => h)); clear hu) | (go_at_call 34; refine (HMY.out _ (HU2.out.alloc _) _ (HS2.out.pure (Upd.alloc1 _ _ _))).mono ?_; rintro r w3 ⟨rfl, hu⟩; obtain ⟨hsb, hu3⟩ := one_up hu; obtain ⟨o0, o1, o2, o3, o4, o5, o6, o7⟩ := cells8 hsb; have HU3 := As.mk (HU2.out.trans hu3 (fun _ _ h => h)); have HT3 := As.mk (Rp.row_pure HT2.out hu3); have HB3 := As.mk (Rp.row_pure HR2'.out hu3); clear hu hu3 hsb))
        go_ret
        exact ⟨rfl, HU5.out⟩
set_option maxRecDepth 100000 in
set_option maxHeartbeats 4000000 in
theorem FitLetters_far {w : World} {A T : Option Addr} {c ct : Nat} {l : List Tok} {bs : List Int} {p : Int} (hf : 200 < l.length ∨ 100 < bs.length) :
    Calls Tryz.prog 11 #[.slice A l.length c, .int .i64 p, .slice T bs.length ct] w (fun r w' => r = .returned (.bool true) ∧ Pure w w') := by
  have HAW := As.mk (fun W => awake13_calls W)
  by_cases h1 : 200 < l.length
  · have i1 : (200 : Int) < (l.length : Int) := by omega
    clear hf h1
    go_enter Tryz.func11, Tryz.ntmps11
    go_wp2_with (go_at_call 31; refine (HAW.out _).mono ?_; rintro r w1 ⟨rfl, hu⟩; have HU1 := As.mk hu; clear hu)
    go_ret
    exact ⟨rfl, HU1.out⟩
  · have i1 : ¬ (200 : Int) < (l.length : Int) := by omega
    have i2 : (100 : Int) < (bs.length : Int) := by omega
    clear hf h1
    go_enter Tryz.func11, Tryz.ntmps11
    go_wp2_with (go_at_call 31; refine (HAW.out _).mono ?_; rintro r w1 ⟨rfl, hu⟩; have HU1 := As.mk hu; clear hu)
    go_ret
    exact ⟨rfl, HU1.out⟩
theorem FitLetters_walk {w : World} {F G : Nat → Prop} {A T : Option Addr} {c ct : Nat} {l : List Tok} {bs : List Int} {p : Int} (hr : tokR.row w F A l) (hlc : l.length ≤ c) (hx : byteR.row w G T bs) (hw : ∀ x ∈ bs, 0 ≤ x ∧ x ≤ 255) :
    Calls Tryz.prog 11 #[.slice A l.length c, .int .i64 p, .slice T bs.length ct] w (fun r w' => r = .returned (.bool true) ∧ Pure w w') := by
  by_cases hf : 200 < l.length ∨ 100 < bs.length
  · exact FitLetters_far hf
  · exact FitLetters_go hr hlc hx hw (by omega) (by omega)
end Go.Proofs.YteeindicpbcjaaaGreatDoor
