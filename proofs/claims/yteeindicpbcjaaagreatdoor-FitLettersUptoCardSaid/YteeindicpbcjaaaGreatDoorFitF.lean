/- fit.Fit. (printed by gen/gen_fit.py) -/
import Derived.Test.YteeindicpbcjaaaGreatDoorFitA
import Derived.Scope
namespace Go.Proofs.YteeindicpbcjaaaGreatDoor
open Go.RowKit
set_option linter.unusedVariables false
set_option linter.unusedSimpArgs false

theorem Holds_any {w : World} {F : Nat → Prop} {A : Option Addr} {c : Nat} {l : List Tok} {n : Nat} (hr : tokR.row w F A l) (h1 : l.length ≤ 200) (hlc : l.length ≤ c) (ok : (houseCheck l).2 = 0) (hn : n ≤ l.length) :
    ∃ (sp : Spec) (hb : Bool), ∀ (W : World), Pure w W → ∀ q, SchR W q houseRules houseGroups → Calls Tryz.prog 60 #[.pointer (some ⟨q, 0, none⟩), .slice A l.length c, .int .i64 (n : Nat)] W fun r w' => r = .returned (.tuple #[sp.val, .bool hb]) ∧ Pure W w' := by
  obtain ⟨R, hP⟩ := at_place ok h1 hn
  rcases hP.whole with hw | ⟨j, yt, y, ha, hy, hy1, hyt, hyt1, hyR⟩
  · exact ⟨zeroSpec, false, fun W hu q hs => Holds_none hs (Rp.row_pure hr hu) (by omega) hlc ok hn hw.1⟩
  · obtain ⟨x, e⟩ := R
    exact ⟨x, true, fun W hu q hs => Holds_in hs (Rp.row_pure hr hu) (by omega) hlc ok hn ha hy hyt hyt1 hyR⟩
/-- A step, a number and an error are answered. -/
theorem fit_end {fn : Func} {p q r : Tmp} (hres : fn.results = #[.cell p 27, .tmp q, .tmp r]) (tmps : Array Value) {w : World} {rb : Nat} {y0 y1 y2 y3 y4 y5 y6 y7 : Value} {t : TypeId} {fr : Nat × Nat} (hp : tmps.getD p undef = .pointer (some ⟨rb, 0, none⟩)) (hg : w.heap[rb]? = some (.cells #[y0, y1, y2, y3, y4, y5, y6, y7] t fr)) :
    (results fn tmps).run Tryz.prog w = .ok (.tuple #[.agg #[y0, y1, y2, y3, y4, y5, y6, y7], tmps.getD q undef, tmps.getD r undef]) w := by
  have hp' : tmps[p]?.getD undef = .pointer (some ⟨rb, 0, none⟩) := by simpa using hp
  simp [results, hres, hp', asAddr, run_loadVar_row (P := Tryz.prog) _ rb t 27 _ fr _ hg Tryz.underlying27 rfl (by kernel_rfl)]
theorem cloGo_len2 (l : List Tok) : ∀ d, (cloGo d l).length ≤ 2 * l.length + d := by
  induction l with
  | nil => intro d; simp [cloGo]
  | cons t r ih =>
    intro d
    simp only [cloGo, List.length_cons]
    split
    · have := ih (d + 1); simp; omega
    · split
      · split
        · have := ih d; omega
        · have := ih (d - 1); simp; omega
      · have := ih d; simp; omega
theorem closed_len2 (l : List Tok) : (closed l).length ≤ 2 * l.length := by have := cloGo_len2 l 0; unfold closed; omega
/-- The ways to fit, one by one. -/
def ways (sl : List Tok) (s : Spec) (held : Bool) : List (List Tok) := [sl, closed sl, if held then plain sl s else [], []]
/-- What fit.Fit answers. -/
def FitR (w : World) (l : List Tok) (f t : Int) (sl : List Tok) (r : Ending) (w' : World) : Prop :=
  ∃ (s : StepD) (B : Option Addr) (c' : Nat) (n e : Int), r = .returned (.tuple #[.agg #[.int .i64 s.k, .int .i64 s.fr, .int .i64 s.tt, .int .i64 s.gf, .int .i64 s.gt, .int .i64 s.ins, .slice B s.sl.length c', .int .i64 s.mark], .int .i64 n, .int .i64 e]) ∧ Pure w w' ∧ tokR.row w' (fun k => w.heap.size ≤ k) B s.sl ∧ s.sl.length ≤ c' ∧ s.sl.length ≤ 100000 ∧
    (e ≠ 0 → s = repl 0 0 [] ∧ B = none ∧ c' = 0 ∧ n = 0) ∧ (e = 0 → (houseCheck l).2 = 0 ∧ remapErr l s = 0 ∧ (∃ xs, s = repl f t xs) ∧ 1 ≤ n ∧ n ≤ 4 ∧ (n = 1 ↔ remapErr l (repl f t sl) = 0) ∧ (n = 1 → s.sl = sl)) ∧ (fmayErr l f t sl = 0 → remapErr l (repl f t sl) = 0 → e = 0 ∧ n = 1)
set_option maxRecDepth 100000 in
set_option maxHeartbeats 4000000 in
theorem Fit_no {w : World} {cb : Nat} {A T : Option Addr} {c ct n : Nat} {l sl : List Tok} {f t : Int}
    (hm : ∀ W, Pure w W → Calls Tryz.prog 59 #[.pointer (some ⟨cb, 0, none⟩), .slice A n c, .int .i64 f, .int .i64 t, .slice T sl.length ct] W (fun r w' => r = .returned (.int .i64 (fmayErr l f t sl)) ∧ Pure W w')) (he : fmayErr l f t sl ≠ 0) :
    Calls Tryz.prog 32 #[.pointer (some ⟨cb, 0, none⟩), .slice A n c, .int .i64 f, .int .i64 t, .slice T sl.length ct] w (FitR w l f t sl) := by
  have HM := As.mk hm
  have HN := As.mk he
  have f0 : (fmayErr l f t sl != 0) = true := by simpa using he
  clear hm he
  have key : Calls Tryz.prog 32 #[.pointer (some ⟨cb, 0, none⟩), .slice A n c, .int .i64 f, .int .i64 t, .slice T sl.length ct] w (fun r w' => r = .returned (.tuple #[step0, .int .i64 0, .int .i64 (fmayErr l f t sl)]) ∧ Pure w w') := by
    generalize fmayErr l f t sl = e at *
    go_enter Tryz.func32, Tryz.ntmps32
    go_wp2
    refine wp_scope_straight ?_
    go_wp2_with (go_at_call 59; refine (HM.out _ (Upd.alloc1 _ _ _)).mono ?_; rintro r w1 ⟨rfl, hu⟩; obtain ⟨hb1, hu1⟩ := one_up hu; have HB1 := As.mk hb1; have HU1 := As.mk hu1; clear hu hb1 hu1; apply As.out)
    refine ⟨?_⟩
    have hbl : w.heap.size < w1.heap.size := (Array.getElem?_eq_some_iff.1 HB1.out).1
    have hcf : ∀ i, w1.frozen? ⟨w.heap.size, i, none⟩ = false := fun i => by simp [World.frozen?, HB1.out]
    obtain ⟨k0, k1, k2, k3, k4, k5, k6, k7⟩ := cells8 HB1.out
    go_wp2
    unfold Exit.noGoto
    exact bodyPost_ret (fit_end (rb := w.heap.size) rfl _ rfl (set8 (rb := w.heap.size) HB1.out _ _ _ _ _ _ _ _)) rfl ⟨rfl, set8_pure HU1.out (Nat.le_refl _) _ _ _ _ _ _ _ _⟩
  exact key.mono fun r w' ⟨h1, h2⟩ => ⟨repl 0 0 [], none, 0, 0, _, h1, h2, .inl rfl, Nat.le_refl _, by simp [repl], fun _ => ⟨rfl, rfl, rfl, rfl⟩, fun h => absurd h HN.out, fun h => absurd h HN.out⟩
theorem mSame (v : Value) (w : World) : (Go.method 351 114 v "emender/fit.fit").run Tryz.prog w = .ok (144, v) w := by kernel_rfl
theorem mClosed (v : Value) (w : World) : (Go.method 351 115 v "emender/fit.fit").run Tryz.prog w = .ok (145, v) w := by kernel_rfl
theorem mPlain (v : Value) (w : World) : (Go.method 351 117 v "emender/fit.fit").run Tryz.prog w = .ok (146, v) w := by kernel_rfl
theorem mNothing (v : Value) (w : World) : (Go.method 351 118 v "emender/fit.fit").run Tryz.prog w = .ok (149, v) w := by kernel_rfl
set_option maxRecDepth 100000 in
set_option maxHeartbeats 4000000 in
theorem Fit_go {w : World} {F G : Nat → Prop} {cb : Nat} {A T : Option Addr} {c ct : Nat} {l sl : List Tok} {f t : Nat} (h : SchR w cb houseRules houseGroups) (hr : tokR.row w F A l) (hlc : l.length ≤ c) (h1 : l.length ≤ 200) (hx : tokR.row w G T sl) (hct : sl.length ≤ ct) (hxb : sl.length ≤ 1000)
    (he : fmayErr l f t sl = 0) :
    Calls Tryz.prog 32 #[.pointer (some ⟨cb, 0, none⟩), .slice A l.length c, .int .i64 (f : Nat), .int .i64 (t : Nat), .slice T sl.length ct] w (FitR w l f t sl) := by
  obtain ⟨ok, q0, q1, q2, hall, _⟩ := fmay_zero.1 he
  obtain ⟨sp, hb, hh⟩ := Holds_any hr h1 hlc ok (show f ≤ l.length by omega)
  have HM := As.mk (fun W (hu : Pure w W) => (by
    have := fmay_calls (c := c) (ct := ct) (f := (f : Int)) (t := (t : Int)) (h.pure hu) (Rp.row_pure hr hu) (by omega) (Rp.row_pure hx hu) (by omega)
    rw [he] at this
    exact this : Calls Tryz.prog 59 #[.pointer (some ⟨cb, 0, none⟩), .slice A l.length c, .int .i64 (f : Nat), .int .i64 (t : Nat), .slice T sl.length ct] W (fun r w' => r = .returned (.int .i64 0) ∧ Pure W w')))
  have HH := As.mk (fun W (hu : Pure w W) => hh W hu cb (h.pure hu))
  obtain ⟨px, hpx⟩ : ∃ px, (if hb = true then plain sl sp else []) = px := ⟨_, rfl⟩
  have hpl : px.length ≤ sl.length := by
    rw [← hpx]
    have := plain_len sl sp
    split
    · exact this
    · simp
  have HPF := As.mk (fun W (hu : Pure w W) => (by
    have := plain_fit (ct := ct) (s := sp) (held := hb) (Rp.row_pure hx hu) (by omega)
    rw [hpx] at this
    exact this : Calls Tryz.prog 146 #[.agg #[.string sp.name, .string sp.expr, .bool sp.leaf, .int .i64 sp.marks, .int .i64 sp.least, .int .i64 sp.most, .bool sp.lines, .bool hb], .slice T sl.length ct] W (WayR W px)))
  have HPL := As.mk hpl
  clear hpx hpl
  have HX := As.mk hx
  have HD := As.mk (fun W (hu : Pure w W) B cs (xs : List Tok) (hrow : tokR.row W (fun _ => True) B xs) (hcs : xs.length ≤ cs) (hxs : xs.length ≤ 100000) => Do_calls (s := repl f t xs) (h.pure hu) (fun V hV => Apply_repl (f := (f : Int)) (t := (t : Int)) (house_ne ok) (Rp.row_pure (Rp.row_pure hr hu) hV) hlc (by omega) (Rp.row_pure hrow hV) hcs (by omega)))
  clear h hr hx hh
  unfold Spec.val at *
  have m1 := mSame
  have m2 := mClosed
  have m3 := mPlain
  have m4 := mNothing
  go_enter Tryz.func32, Tryz.ntmps32
  go_wp2
  refine wp_scope_straight ?_
  go_wp2_with (first | (go_at_call 60; refine (HH.out w1 HU1.out).mono ?_; rintro r w2 ⟨rfl, hu⟩; have HB2 := As.mk ((hu.block w.heap.size (lt_of_block HB1.out) (fun h => h)).trans HB1.out); have HU2 := As.mk (HU1.out.trans hu (fun _ _ h => h)); clear hu) | (go_at_call 59; refine (HM.out _ (Upd.alloc1 _ _ _)).mono ?_; rintro r w1 ⟨rfl, hu⟩; obtain ⟨hb1, hu1⟩ := one_up hu; have HB1 := As.mk hb1; have HU1 := As.mk hu1; clear hu hb1 hu1))
  refine wp_label ?_
  go_wp2
  have HT0 := As.mk (heap_alloc2_new w2 (.cells #[.string sp.name, .string sp.expr, .bool sp.leaf, .int .i64 sp.marks, .int .i64 sp.least, .int .i64 sp.most, .bool sp.lines] 59) (.cells #[.int .i64 0, .int .i64 0, .int .i64 0, .int .i64 0, .int .i64 0, .int .i64 0, .slice none 0 0, .int .i64 0] 27))
  have HU0 := As.mk ((HU2.out.alloc (.cells #[.string sp.name, .string sp.expr, .bool sp.leaf, .int .i64 sp.marks, .int .i64 sp.least, .int .i64 sp.most, .bool sp.lines] 59)).alloc (.cells #[.int .i64 0, .int .i64 0, .int .i64 0, .int .i64 0, .int .i64 0, .int .i64 0, .slice none 0 0, .int .i64 0] 27))
  have HR0 := As.mk ((((Upd.alloc1 (fun _ => False) w2 (.cells #[.string sp.name, .string sp.expr, .bool sp.leaf, .int .i64 sp.marks, .int .i64 sp.least, .int .i64 sp.most, .bool sp.lines] 59)).alloc (.cells #[.int .i64 0, .int .i64 0, .int .i64 0, .int .i64 0, .int .i64 0, .int .i64 0, .slice none 0 0, .int .i64 0] 27)).block w.heap.size (lt_of_block HB2.out) (fun h => h)).trans HB2.out)
  have HL0 := As.mk (show w.heap.size < w2.heap.size + 1 by have := lt_of_block HB2.out; omega)
  have HOK := As.mk ok
  generalize ((w2.alloc (.cells #[.string sp.name, .string sp.expr, .bool sp.leaf, .int .i64 sp.marks, .int .i64 sp.least, .int .i64 sp.most, .bool sp.lines] 59)).alloc (.cells #[.int .i64 0, .int .i64 0, .int .i64 0, .int .i64 0, .int .i64 0, .int .i64 0, .slice none 0 0, .int .i64 0] 27)) = v0 at *
  generalize w2.heap.size + 1 = tb at *
  clear ok he hall q0 q1 q2
  go_loopg [17, 51] 4 (fun g nv i wr => ∃ k : Nat, k + g = 4 ∧ nv = .int .i64 0 ∧ i = .int .i64 (k : Nat) ∧ As (Pure v0 wr) ∧ As (0 < k → remapErr l (repl f t sl) ≠ 0))
  case atStart => exact ⟨0, by omega, rfl, rfl, ⟨Upd.refl _ _⟩, ⟨fun h => absurd h (by decide)⟩⟩
  case round =>
    obtain ⟨k, hk, rfl, rfl, HW, HK⟩ := hrel
    have HTW := As.mk ((HW.out.block tb (lt_of_block HT0.out) (fun h => h)).trans HT0.out)
    have HRW := As.mk ((HW.out.block w.heap.size (lt_of_block HR0.out) (fun h => h)).trans HR0.out)
    have HUW := As.mk (HU0.out.trans HW.out (fun _ _ h => h))
    rcases (by omega : k = 0 ∨ k = 1 ∨ k = 2 ∨ k = 3 ∨ k = 4) with rfl | rfl | rfl | rfl | rfl
    · have HLN := As.mk (show (sl : List Tok).length ≤ 100000 by omega)
      by_cases hez : remapErr l (repl f t (sl)) = 0
      · have HEZ := As.mk hez
        clear hez
        go_wp2
        change (_ : Act → World → Prop) (Act.put _ _ (.iface 114 (.agg #[]))) _
        go_wp2_with (first | (go_at_call 61; refine (HD.out (w4.alloc _) ((HU0.out.trans HP4.out (fun _ _ h => h)).alloc _) A4 c4 (sl) (Rp.row_fp (Rp.row_pure HR4.out (Upd.alloc1 _ _ _)) (fun _ _ => trivial)) HC4.out HLN.out).mono ?_; rintro r w5 hd; obtain ⟨⟨B5, rfl, _⟩, hu⟩ := DocR.zero (HEZ.out ▸ hd); obtain ⟨hs5, hu5⟩ := one_up hu; have HP5 := As.mk (HP4.out.trans hu5 (fun _ _ h => h)); have HR5 := As.mk (Rp.row_pure HR4.out hu5); have HS5 := As.mk hs5; obtain ⟨s0, s1, s2, s3, s4, s5, s6, s7⟩ := cells8 hs5; clear hd hu hu5 hs5; apply As.out) | (at_builtin; refine Rp.append_row tokR (c := c3) (Rp.own_nil tokR 40 w3 (fun _ => False)) (Rp.row'_of HR3.out (fun _ _ h => h)) (Fz := fun _ => False) (fun _ h => h.elim) rfl _ _ 22 _ 32 rfl Tryz.underlying22 tok_info rfl (by decide) (by decide) rfl rfl (by have := HLN.out; simp only [List.length_nil]; omega) ?_; intro v1 w4 ho1 hu1 hat; obtain ⟨A4, c4, rfl, hc4, hrow4⟩ := Rp.own_slice ho1; simp only [List.nil_append] at hc4 hrow4 hat; have HP4 := As.mk (Upd.trans HP3.out hu1 (fun k _ h => by simp [Value.ownBlock] at h)); have HR4 := As.mk (Rp.row_fp (G := fun k => tb < k) hrow4 (fun k hk => by rcases hk with hk | hk | hk; exact hk.1.elim; exact hk.elim; rcases hat with hat | ⟨b, hb, hle⟩; (rw [hat] at hk; simp [Value.ownBlock] at hk); (rw [hb] at hk; cases hk; have h7 := HP3.out.size; have h8 := lt_of_block HT0.out; omega))); have HC4 := As.mk hc4; clear ho1 hu1 hat hc4 hrow4) | (go_at_call 144; refine (same_fit (ct := ct) (Rp.row_pure HX.out HUW.out) hct).mono ?_; rintro r w3 ⟨T3, c3, rfl, hrow, hc3, hu⟩; have HP3 := As.mk (HW.out.trans hu (fun _ _ h => h)); have HR3 := As.mk hrow; clear hu hrow))
        refine ⟨?_⟩
        have HT5 := As.mk ((HP5.out.block tb (lt_of_block HT0.out) (fun h => h)).trans HT0.out)
        have HB5 := As.mk ((HP5.out.block w.heap.size (lt_of_block HR0.out) (fun h => h)).trans HR0.out)
        have hbl : w.heap.size < w5.heap.size := lt_of_block HB5.out
        have hcf : ∀ i, w5.frozen? ⟨w.heap.size, i, none⟩ = false := fun i => by simp [World.frozen?, HB5.out]
        have hbt : tb < w5.heap.size := lt_of_block HT5.out
        have hct5 : ∀ i, w5.frozen? ⟨tb, i, none⟩ = false := fun i => by simp [World.frozen?, HT5.out]
        have hne : w.heap.size ≠ tb := by have := HL0.out; omega
        obtain ⟨k0, k1, k2, k3, k4, k5, k6, k7⟩ := cells8 HB5.out
        obtain ⟨t0, t1, t2, t3, t4, t5, t6, t7⟩ := cells8 HT5.out
        have HU5 := As.mk (HU0.out.trans HP5.out (fun _ _ h => h))
        go_wp2
        unfold Exit.noGoto
        exact bodyPost_ret (fit_end (rb := w.heap.size) rfl _ rfl (set8 (rb := w.heap.size) (((set8_upd (Upd.refl (fun k => k = tb) w5) _ _ _ _ _ _ _ _).block w.heap.size (lt_of_block HB5.out) (fun h => hne h)).trans HB5.out) _ _ _ _ _ _ _ _)) rfl ⟨repl f t (sl), A4, c4, 1, 0, rfl, set8_pure (set8_pure (rb := tb) HU5.out (Nat.le_of_lt HL0.out) _ _ _ _ _ _ _ _) (Nat.le_refl _) _ _ _ _ _ _ _ _, Rp.row_fp (Rp.row_upd (Rp.row_upd HR5.out (set8_upd (rb := tb) (Upd.refl _ _) _ _ _ _ _ _ _ _) (fun k _ h e => by omega)) (set8_upd (rb := w.heap.size) (Upd.refl _ _) _ _ _ _ _ _ _ _) (fun k _ h e => by have := HL0.out; omega)) (fun k h => by have := HL0.out; omega), HC4.out, HLN.out, fun h => absurd rfl h, fun _ => ⟨HOK.out, HEZ.out, ⟨_, rfl⟩, by decide, by decide, ⟨fun _ => HEZ.out, fun _ => rfl⟩, fun _ => rfl⟩, fun _ _ => ⟨rfl, rfl⟩⟩
      · have HEZ := As.mk hez
        have e0 : (remapErr l (repl f t (sl)) == 0) = false := by simpa using hez
        obtain rfl : gk = 4 := by omega
        clear hez
        go_wp2
        change (_ : Act → World → Prop) (Act.put _ _ (.iface 114 (.agg #[]))) _
        go_wp2_with (first | (go_at_call 61; refine (HD.out (w4.alloc _) ((HU0.out.trans HP4.out (fun _ _ h => h)).alloc _) A4 c4 (sl) (Rp.row_fp (Rp.row_pure HR4.out (Upd.alloc1 _ _ _)) (fun _ _ => trivial)) HC4.out HLN.out).mono ?_; rintro r w5 hd; obtain ⟨rfl, hu⟩ := DocR.ne hd HEZ.out; obtain ⟨hs5, hu5⟩ := one_up hu; have HP5 := As.mk (HP4.out.trans hu5 (fun _ _ h => h)); have HR5 := As.mk (Rp.row_pure HR4.out hu5); have HS5 := As.mk hs5; obtain ⟨s0, s1, s2, s3, s4, s5, s6, s7⟩ := cells8 hs5; clear hd hu hu5 hs5; apply As.out) | (at_builtin; refine Rp.append_row tokR (c := c3) (Rp.own_nil tokR 40 w3 (fun _ => False)) (Rp.row'_of HR3.out (fun _ _ h => h)) (Fz := fun _ => False) (fun _ h => h.elim) rfl _ _ 22 _ 32 rfl Tryz.underlying22 tok_info rfl (by decide) (by decide) rfl rfl (by have := HLN.out; simp only [List.length_nil]; omega) ?_; intro v1 w4 ho1 hu1 hat; obtain ⟨A4, c4, rfl, hc4, hrow4⟩ := Rp.own_slice ho1; simp only [List.nil_append] at hc4 hrow4 hat; have HP4 := As.mk (Upd.trans HP3.out hu1 (fun k _ h => by simp [Value.ownBlock] at h)); have HR4 := As.mk (Rp.row_fp (G := fun k => tb < k) hrow4 (fun k hk => by rcases hk with hk | hk | hk; exact hk.1.elim; exact hk.elim; rcases hat with hat | ⟨b, hb, hle⟩; (rw [hat] at hk; simp [Value.ownBlock] at hk); (rw [hb] at hk; cases hk; have h7 := HP3.out.size; have h8 := lt_of_block HT0.out; omega))); have HC4 := As.mk hc4; clear ho1 hu1 hat hc4 hrow4) | (go_at_call 144; refine (same_fit (ct := ct) (Rp.row_pure HX.out HUW.out) hct).mono ?_; rintro r w3 ⟨T3, c3, rfl, hrow, hc3, hu⟩; have HP3 := As.mk (HW.out.trans hu (fun _ _ h => h)); have HR3 := As.mk hrow; clear hu hrow))
        refine ⟨?_⟩
        go_wp2
        go_roundg 3
        case measure => omega
        case rel => exact ⟨1, by omega, rfl, by first | rfl | go_num, HP5, ⟨fun _ => HEZ.out⟩⟩
    · have HLN := As.mk (show (closed sl : List Tok).length ≤ 100000 by (have := closed_len2 sl; omega))
      have HK0 := As.mk (HK.out (by decide))
      by_cases hez : remapErr l (repl f t (closed sl)) = 0
      · have HEZ := As.mk hez
        clear hez
        go_wp2
        change (_ : Act → World → Prop) (Act.put _ _ (.iface 115 (.agg #[]))) _
        go_wp2_with (first | (go_at_call 61; refine (HD.out (w4.alloc _) ((HU0.out.trans HP4.out (fun _ _ h => h)).alloc _) A4 c4 (closed sl) (Rp.row_fp (Rp.row_pure HR4.out (Upd.alloc1 _ _ _)) (fun _ _ => trivial)) HC4.out HLN.out).mono ?_; rintro r w5 hd; obtain ⟨⟨B5, rfl, _⟩, hu⟩ := DocR.zero (HEZ.out ▸ hd); obtain ⟨hs5, hu5⟩ := one_up hu; have HP5 := As.mk (HP4.out.trans hu5 (fun _ _ h => h)); have HR5 := As.mk (Rp.row_pure HR4.out hu5); have HS5 := As.mk hs5; obtain ⟨s0, s1, s2, s3, s4, s5, s6, s7⟩ := cells8 hs5; clear hd hu hu5 hs5; apply As.out) | (at_builtin; refine Rp.append_row tokR (c := c3) (Rp.own_nil tokR 40 w3 (fun _ => False)) (Rp.row'_of HR3.out (fun _ _ h => h)) (Fz := fun _ => False) (fun _ h => h.elim) rfl _ _ 22 _ 32 rfl Tryz.underlying22 tok_info rfl (by decide) (by decide) rfl rfl (by have := HLN.out; simp only [List.length_nil]; omega) ?_; intro v1 w4 ho1 hu1 hat; obtain ⟨A4, c4, rfl, hc4, hrow4⟩ := Rp.own_slice ho1; simp only [List.nil_append] at hc4 hrow4 hat; have HP4 := As.mk (Upd.trans HP3.out hu1 (fun k _ h => by simp [Value.ownBlock] at h)); have HR4 := As.mk (Rp.row_fp (G := fun k => tb < k) hrow4 (fun k hk => by rcases hk with hk | hk | hk; exact hk.1.elim; exact hk.elim; rcases hat with hat | ⟨b, hb, hle⟩; (rw [hat] at hk; simp [Value.ownBlock] at hk); (rw [hb] at hk; cases hk; have h7 := HP3.out.size; have h8 := lt_of_block HT0.out; omega))); have HC4 := As.mk hc4; clear ho1 hu1 hat hc4 hrow4) | (go_at_call 145; refine (closed_fit (ct := ct) (Rp.row_pure HX.out HUW.out) (by omega)).mono ?_; rintro r w3 ⟨T3, c3, rfl, hrow, hc3, hu⟩; have HP3 := As.mk (HW.out.trans hu (fun _ _ h => h)); have HR3 := As.mk hrow; clear hu hrow))
        refine ⟨?_⟩
        have HT5 := As.mk ((HP5.out.block tb (lt_of_block HT0.out) (fun h => h)).trans HT0.out)
        have HB5 := As.mk ((HP5.out.block w.heap.size (lt_of_block HR0.out) (fun h => h)).trans HR0.out)
        have hbl : w.heap.size < w5.heap.size := lt_of_block HB5.out
        have hcf : ∀ i, w5.frozen? ⟨w.heap.size, i, none⟩ = false := fun i => by simp [World.frozen?, HB5.out]
        have hbt : tb < w5.heap.size := lt_of_block HT5.out
        have hct5 : ∀ i, w5.frozen? ⟨tb, i, none⟩ = false := fun i => by simp [World.frozen?, HT5.out]
        have hne : w.heap.size ≠ tb := by have := HL0.out; omega
        obtain ⟨k0, k1, k2, k3, k4, k5, k6, k7⟩ := cells8 HB5.out
        obtain ⟨t0, t1, t2, t3, t4, t5, t6, t7⟩ := cells8 HT5.out
        have HU5 := As.mk (HU0.out.trans HP5.out (fun _ _ h => h))
        go_wp2
        unfold Exit.noGoto
        exact bodyPost_ret (fit_end (rb := w.heap.size) rfl _ rfl (set8 (rb := w.heap.size) (((set8_upd (Upd.refl (fun k => k = tb) w5) _ _ _ _ _ _ _ _).block w.heap.size (lt_of_block HB5.out) (fun h => hne h)).trans HB5.out) _ _ _ _ _ _ _ _)) rfl ⟨repl f t (closed sl), A4, c4, 2, 0, rfl, set8_pure (set8_pure (rb := tb) HU5.out (Nat.le_of_lt HL0.out) _ _ _ _ _ _ _ _) (Nat.le_refl _) _ _ _ _ _ _ _ _, Rp.row_fp (Rp.row_upd (Rp.row_upd HR5.out (set8_upd (rb := tb) (Upd.refl _ _) _ _ _ _ _ _ _ _) (fun k _ h e => by omega)) (set8_upd (rb := w.heap.size) (Upd.refl _ _) _ _ _ _ _ _ _ _) (fun k _ h e => by have := HL0.out; omega)) (fun k h => by have := HL0.out; omega), HC4.out, HLN.out, fun h => absurd rfl h, fun _ => ⟨HOK.out, HEZ.out, ⟨_, rfl⟩, by decide, by decide, ⟨fun h => absurd h (by decide), fun h => absurd h HK0.out⟩, fun h => absurd h (by decide)⟩, fun _ h => absurd h HK0.out⟩
      · have HEZ := As.mk hez
        have e0 : (remapErr l (repl f t (closed sl)) == 0) = false := by simpa using hez
        obtain rfl : gk = 3 := by omega
        clear hez
        go_wp2
        change (_ : Act → World → Prop) (Act.put _ _ (.iface 115 (.agg #[]))) _
        go_wp2_with (first | (go_at_call 61; refine (HD.out (w4.alloc _) ((HU0.out.trans HP4.out (fun _ _ h => h)).alloc _) A4 c4 (closed sl) (Rp.row_fp (Rp.row_pure HR4.out (Upd.alloc1 _ _ _)) (fun _ _ => trivial)) HC4.out HLN.out).mono ?_; rintro r w5 hd; obtain ⟨rfl, hu⟩ := DocR.ne hd HEZ.out; obtain ⟨hs5, hu5⟩ := one_up hu; have HP5 := As.mk (HP4.out.trans hu5 (fun _ _ h => h)); have HR5 := As.mk (Rp.row_pure HR4.out hu5); have HS5 := As.mk hs5; obtain ⟨s0, s1, s2, s3, s4, s5, s6, s7⟩ := cells8 hs5; clear hd hu hu5 hs5; apply As.out) | (at_builtin; refine Rp.append_row tokR (c := c3) (Rp.own_nil tokR 40 w3 (fun _ => False)) (Rp.row'_of HR3.out (fun _ _ h => h)) (Fz := fun _ => False) (fun _ h => h.elim) rfl _ _ 22 _ 32 rfl Tryz.underlying22 tok_info rfl (by decide) (by decide) rfl rfl (by have := HLN.out; simp only [List.length_nil]; omega) ?_; intro v1 w4 ho1 hu1 hat; obtain ⟨A4, c4, rfl, hc4, hrow4⟩ := Rp.own_slice ho1; simp only [List.nil_append] at hc4 hrow4 hat; have HP4 := As.mk (Upd.trans HP3.out hu1 (fun k _ h => by simp [Value.ownBlock] at h)); have HR4 := As.mk (Rp.row_fp (G := fun k => tb < k) hrow4 (fun k hk => by rcases hk with hk | hk | hk; exact hk.1.elim; exact hk.elim; rcases hat with hat | ⟨b, hb, hle⟩; (rw [hat] at hk; simp [Value.ownBlock] at hk); (rw [hb] at hk; cases hk; have h7 := HP3.out.size; have h8 := lt_of_block HT0.out; omega))); have HC4 := As.mk hc4; clear ho1 hu1 hat hc4 hrow4) | (go_at_call 145; refine (closed_fit (ct := ct) (Rp.row_pure HX.out HUW.out) (by omega)).mono ?_; rintro r w3 ⟨T3, c3, rfl, hrow, hc3, hu⟩; have HP3 := As.mk (HW.out.trans hu (fun _ _ h => h)); have HR3 := As.mk hrow; clear hu hrow))
        refine ⟨?_⟩
        go_wp2
        go_roundg 2
        case measure => omega
        case rel => exact ⟨2, by omega, rfl, by first | rfl | go_num, HP5, ⟨fun _ => HK0.out⟩⟩
    · have HLN := As.mk (show (px : List Tok).length ≤ 100000 by (have := HPL.out; omega))
      have HK0 := As.mk (HK.out (by decide))
      by_cases hez : remapErr l (repl f t (px)) = 0
      · have HEZ := As.mk hez
        clear hez
        go_wp2
        change (_ : Act → World → Prop) (Act.put _ _ (.iface 117 (.agg #[.string sp.name, .string sp.expr, .bool sp.leaf, .int .i64 sp.marks, .int .i64 sp.least, .int .i64 sp.most, .bool sp.lines, .bool hb]))) _
        go_wp2_with (first | (go_at_call 61; refine (HD.out (w4.alloc _) ((HU0.out.trans HP4.out (fun _ _ h => h)).alloc _) A4 c4 (px) (Rp.row_fp (Rp.row_pure HR4.out (Upd.alloc1 _ _ _)) (fun _ _ => trivial)) HC4.out HLN.out).mono ?_; rintro r w5 hd; obtain ⟨⟨B5, rfl, _⟩, hu⟩ := DocR.zero (HEZ.out ▸ hd); obtain ⟨hs5, hu5⟩ := one_up hu; have HP5 := As.mk (HP4.out.trans hu5 (fun _ _ h => h)); have HR5 := As.mk (Rp.row_pure HR4.out hu5); have HS5 := As.mk hs5; obtain ⟨s0, s1, s2, s3, s4, s5, s6, s7⟩ := cells8 hs5; clear hd hu hu5 hs5; apply As.out) | (at_builtin; refine Rp.append_row tokR (c := c3) (Rp.own_nil tokR 40 w3 (fun _ => False)) (Rp.row'_of HR3.out (fun _ _ h => h)) (Fz := fun _ => False) (fun _ h => h.elim) rfl _ _ 22 _ 32 rfl Tryz.underlying22 tok_info rfl (by decide) (by decide) rfl rfl (by have := HLN.out; simp only [List.length_nil]; omega) ?_; intro v1 w4 ho1 hu1 hat; obtain ⟨A4, c4, rfl, hc4, hrow4⟩ := Rp.own_slice ho1; simp only [List.nil_append] at hc4 hrow4 hat; have HP4 := As.mk (Upd.trans HP3.out hu1 (fun k _ h => by simp [Value.ownBlock] at h)); have HR4 := As.mk (Rp.row_fp (G := fun k => tb < k) hrow4 (fun k hk => by rcases hk with hk | hk | hk; exact hk.1.elim; exact hk.elim; rcases hat with hat | ⟨b, hb, hle⟩; (rw [hat] at hk; simp [Value.ownBlock] at hk); (rw [hb] at hk; cases hk; have h7 := HP3.out.size; have h8 := lt_of_block HT0.out; omega))); have HC4 := As.mk hc4; clear ho1 hu1 hat hc4 hrow4) | (go_at_call 146; refine (HPF.out _ HUW.out).mono ?_; rintro r w3 ⟨T3, c3, rfl, hrow, hc3, hu⟩; have HP3 := As.mk (HW.out.trans hu (fun _ _ h => h)); have HR3 := As.mk hrow; clear hu hrow))
        refine ⟨?_⟩
        have HT5 := As.mk ((HP5.out.block tb (lt_of_block HT0.out) (fun h => h)).trans HT0.out)
        have HB5 := As.mk ((HP5.out.block w.heap.size (lt_of_block HR0.out) (fun h => h)).trans HR0.out)
        have hbl : w.heap.size < w5.heap.size := lt_of_block HB5.out
        have hcf : ∀ i, w5.frozen? ⟨w.heap.size, i, none⟩ = false := fun i => by simp [World.frozen?, HB5.out]
        have hbt : tb < w5.heap.size := lt_of_block HT5.out
        have hct5 : ∀ i, w5.frozen? ⟨tb, i, none⟩ = false := fun i => by simp [World.frozen?, HT5.out]
        have hne : w.heap.size ≠ tb := by have := HL0.out; omega
        obtain ⟨k0, k1, k2, k3, k4, k5, k6, k7⟩ := cells8 HB5.out
        obtain ⟨t0, t1, t2, t3, t4, t5, t6, t7⟩ := cells8 HT5.out
        have HU5 := As.mk (HU0.out.trans HP5.out (fun _ _ h => h))
        go_wp2
        unfold Exit.noGoto
        exact bodyPost_ret (fit_end (rb := w.heap.size) rfl _ rfl (set8 (rb := w.heap.size) (((set8_upd (Upd.refl (fun k => k = tb) w5) _ _ _ _ _ _ _ _).block w.heap.size (lt_of_block HB5.out) (fun h => hne h)).trans HB5.out) _ _ _ _ _ _ _ _)) rfl ⟨repl f t (px), A4, c4, 3, 0, rfl, set8_pure (set8_pure (rb := tb) HU5.out (Nat.le_of_lt HL0.out) _ _ _ _ _ _ _ _) (Nat.le_refl _) _ _ _ _ _ _ _ _, Rp.row_fp (Rp.row_upd (Rp.row_upd HR5.out (set8_upd (rb := tb) (Upd.refl _ _) _ _ _ _ _ _ _ _) (fun k _ h e => by omega)) (set8_upd (rb := w.heap.size) (Upd.refl _ _) _ _ _ _ _ _ _ _) (fun k _ h e => by have := HL0.out; omega)) (fun k h => by have := HL0.out; omega), HC4.out, HLN.out, fun h => absurd rfl h, fun _ => ⟨HOK.out, HEZ.out, ⟨_, rfl⟩, by decide, by decide, ⟨fun h => absurd h (by decide), fun h => absurd h HK0.out⟩, fun h => absurd h (by decide)⟩, fun _ h => absurd h HK0.out⟩
      · have HEZ := As.mk hez
        have e0 : (remapErr l (repl f t (px)) == 0) = false := by simpa using hez
        obtain rfl : gk = 2 := by omega
        clear hez
        go_wp2
        change (_ : Act → World → Prop) (Act.put _ _ (.iface 117 (.agg #[.string sp.name, .string sp.expr, .bool sp.leaf, .int .i64 sp.marks, .int .i64 sp.least, .int .i64 sp.most, .bool sp.lines, .bool hb]))) _
        go_wp2_with (first | (go_at_call 61; refine (HD.out (w4.alloc _) ((HU0.out.trans HP4.out (fun _ _ h => h)).alloc _) A4 c4 (px) (Rp.row_fp (Rp.row_pure HR4.out (Upd.alloc1 _ _ _)) (fun _ _ => trivial)) HC4.out HLN.out).mono ?_; rintro r w5 hd; obtain ⟨rfl, hu⟩ := DocR.ne hd HEZ.out; obtain ⟨hs5, hu5⟩ := one_up hu; have HP5 := As.mk (HP4.out.trans hu5 (fun _ _ h => h)); have HR5 := As.mk (Rp.row_pure HR4.out hu5); have HS5 := As.mk hs5; obtain ⟨s0, s1, s2, s3, s4, s5, s6, s7⟩ := cells8 hs5; clear hd hu hu5 hs5; apply As.out) | (at_builtin; refine Rp.append_row tokR (c := c3) (Rp.own_nil tokR 40 w3 (fun _ => False)) (Rp.row'_of HR3.out (fun _ _ h => h)) (Fz := fun _ => False) (fun _ h => h.elim) rfl _ _ 22 _ 32 rfl Tryz.underlying22 tok_info rfl (by decide) (by decide) rfl rfl (by have := HLN.out; simp only [List.length_nil]; omega) ?_; intro v1 w4 ho1 hu1 hat; obtain ⟨A4, c4, rfl, hc4, hrow4⟩ := Rp.own_slice ho1; simp only [List.nil_append] at hc4 hrow4 hat; have HP4 := As.mk (Upd.trans HP3.out hu1 (fun k _ h => by simp [Value.ownBlock] at h)); have HR4 := As.mk (Rp.row_fp (G := fun k => tb < k) hrow4 (fun k hk => by rcases hk with hk | hk | hk; exact hk.1.elim; exact hk.elim; rcases hat with hat | ⟨b, hb, hle⟩; (rw [hat] at hk; simp [Value.ownBlock] at hk); (rw [hb] at hk; cases hk; have h7 := HP3.out.size; have h8 := lt_of_block HT0.out; omega))); have HC4 := As.mk hc4; clear ho1 hu1 hat hc4 hrow4) | (go_at_call 146; refine (HPF.out _ HUW.out).mono ?_; rintro r w3 ⟨T3, c3, rfl, hrow, hc3, hu⟩; have HP3 := As.mk (HW.out.trans hu (fun _ _ h => h)); have HR3 := As.mk hrow; clear hu hrow))
        refine ⟨?_⟩
        go_wp2
        go_roundg 1
        case measure => omega
        case rel => exact ⟨3, by omega, rfl, by first | rfl | go_num, HP5, ⟨fun _ => HK0.out⟩⟩
    · have HLN := As.mk (show ([] : List Tok).length ≤ 100000 by simp)
      have HK0 := As.mk (HK.out (by decide))
      by_cases hez : remapErr l (repl f t ([])) = 0
      · have HEZ := As.mk hez
        clear hez
        go_wp2
        change (_ : Act → World → Prop) (Act.put _ _ (.iface 118 (.agg #[]))) _
        go_wp2_with (first | (go_at_call 61; refine (HD.out (w4.alloc _) ((HU0.out.trans HP4.out (fun _ _ h => h)).alloc _) A4 c4 ([]) (Rp.row_fp (Rp.row_pure HR4.out (Upd.alloc1 _ _ _)) (fun _ _ => trivial)) HC4.out HLN.out).mono ?_; rintro r w5 hd; obtain ⟨⟨B5, rfl, _⟩, hu⟩ := DocR.zero (HEZ.out ▸ hd); obtain ⟨hs5, hu5⟩ := one_up hu; have HP5 := As.mk (HP4.out.trans hu5 (fun _ _ h => h)); have HR5 := As.mk (Rp.row_pure HR4.out hu5); have HS5 := As.mk hs5; obtain ⟨s0, s1, s2, s3, s4, s5, s6, s7⟩ := cells8 hs5; clear hd hu hu5 hs5; apply As.out) | (at_builtin; refine Rp.append_row tokR (c := c3) (Rp.own_nil tokR 40 w3 (fun _ => False)) (Rp.row'_of HR3.out (fun _ _ h => h)) (Fz := fun _ => False) (fun _ h => h.elim) rfl _ _ 22 _ 32 rfl Tryz.underlying22 tok_info rfl (by decide) (by decide) rfl rfl (by have := HLN.out; simp only [List.length_nil]; omega) ?_; intro v1 w4 ho1 hu1 hat; obtain ⟨A4, c4, rfl, hc4, hrow4⟩ := Rp.own_slice ho1; simp only [List.nil_append] at hc4 hrow4 hat; have HP4 := As.mk (Upd.trans HP3.out hu1 (fun k _ h => by simp [Value.ownBlock] at h)); have HR4 := As.mk (Rp.row_fp (G := fun k => tb < k) hrow4 (fun k hk => by rcases hk with hk | hk | hk; exact hk.1.elim; exact hk.elim; rcases hat with hat | ⟨b, hb, hle⟩; (rw [hat] at hk; simp [Value.ownBlock] at hk); (rw [hb] at hk; cases hk; have h7 := HP3.out.size; have h8 := lt_of_block HT0.out; omega))); have HC4 := As.mk hc4; clear ho1 hu1 hat hc4 hrow4) | (go_at_call 149; refine (nothing_fit).mono ?_; rintro r w3 ⟨T3, c3, rfl, hrow, hc3, hu⟩; have HP3 := As.mk (HW.out.trans hu (fun _ _ h => h)); have HR3 := As.mk hrow; clear hu hrow))
        refine ⟨?_⟩
        have HT5 := As.mk ((HP5.out.block tb (lt_of_block HT0.out) (fun h => h)).trans HT0.out)
        have HB5 := As.mk ((HP5.out.block w.heap.size (lt_of_block HR0.out) (fun h => h)).trans HR0.out)
        have hbl : w.heap.size < w5.heap.size := lt_of_block HB5.out
        have hcf : ∀ i, w5.frozen? ⟨w.heap.size, i, none⟩ = false := fun i => by simp [World.frozen?, HB5.out]
        have hbt : tb < w5.heap.size := lt_of_block HT5.out
        have hct5 : ∀ i, w5.frozen? ⟨tb, i, none⟩ = false := fun i => by simp [World.frozen?, HT5.out]
        have hne : w.heap.size ≠ tb := by have := HL0.out; omega
        obtain ⟨k0, k1, k2, k3, k4, k5, k6, k7⟩ := cells8 HB5.out
        obtain ⟨t0, t1, t2, t3, t4, t5, t6, t7⟩ := cells8 HT5.out
        have HU5 := As.mk (HU0.out.trans HP5.out (fun _ _ h => h))
        go_wp2
        unfold Exit.noGoto
        exact bodyPost_ret (fit_end (rb := w.heap.size) rfl _ rfl (set8 (rb := w.heap.size) (((set8_upd (Upd.refl (fun k => k = tb) w5) _ _ _ _ _ _ _ _).block w.heap.size (lt_of_block HB5.out) (fun h => hne h)).trans HB5.out) _ _ _ _ _ _ _ _)) rfl ⟨repl f t ([]), A4, c4, 4, 0, rfl, set8_pure (set8_pure (rb := tb) HU5.out (Nat.le_of_lt HL0.out) _ _ _ _ _ _ _ _) (Nat.le_refl _) _ _ _ _ _ _ _ _, Rp.row_fp (Rp.row_upd (Rp.row_upd HR5.out (set8_upd (rb := tb) (Upd.refl _ _) _ _ _ _ _ _ _ _) (fun k _ h e => by omega)) (set8_upd (rb := w.heap.size) (Upd.refl _ _) _ _ _ _ _ _ _ _) (fun k _ h e => by have := HL0.out; omega)) (fun k h => by have := HL0.out; omega), HC4.out, HLN.out, fun h => absurd rfl h, fun _ => ⟨HOK.out, HEZ.out, ⟨_, rfl⟩, by decide, by decide, ⟨fun h => absurd h (by decide), fun h => absurd h HK0.out⟩, fun h => absurd h (by decide)⟩, fun _ h => absurd h HK0.out⟩
      · have HEZ := As.mk hez
        have e0 : (remapErr l (repl f t ([])) == 0) = false := by simpa using hez
        obtain rfl : gk = 1 := by omega
        clear hez
        go_wp2
        change (_ : Act → World → Prop) (Act.put _ _ (.iface 118 (.agg #[]))) _
        go_wp2_with (first | (go_at_call 61; refine (HD.out (w4.alloc _) ((HU0.out.trans HP4.out (fun _ _ h => h)).alloc _) A4 c4 ([]) (Rp.row_fp (Rp.row_pure HR4.out (Upd.alloc1 _ _ _)) (fun _ _ => trivial)) HC4.out HLN.out).mono ?_; rintro r w5 hd; obtain ⟨rfl, hu⟩ := DocR.ne hd HEZ.out; obtain ⟨hs5, hu5⟩ := one_up hu; have HP5 := As.mk (HP4.out.trans hu5 (fun _ _ h => h)); have HR5 := As.mk (Rp.row_pure HR4.out hu5); have HS5 := As.mk hs5; obtain ⟨s0, s1, s2, s3, s4, s5, s6, s7⟩ := cells8 hs5; clear hd hu hu5 hs5; apply As.out) | (at_builtin; refine Rp.append_row tokR (c := c3) (Rp.own_nil tokR 40 w3 (fun _ => False)) (Rp.row'_of HR3.out (fun _ _ h => h)) (Fz := fun _ => False) (fun _ h => h.elim) rfl _ _ 22 _ 32 rfl Tryz.underlying22 tok_info rfl (by decide) (by decide) rfl rfl (by have := HLN.out; simp only [List.length_nil]; omega) ?_; intro v1 w4 ho1 hu1 hat; obtain ⟨A4, c4, rfl, hc4, hrow4⟩ := Rp.own_slice ho1; simp only [List.nil_append] at hc4 hrow4 hat; have HP4 := As.mk (Upd.trans HP3.out hu1 (fun k _ h => by simp [Value.ownBlock] at h)); have HR4 := As.mk (Rp.row_fp (G := fun k => tb < k) hrow4 (fun k hk => by rcases hk with hk | hk | hk; exact hk.1.elim; exact hk.elim; rcases hat with hat | ⟨b, hb, hle⟩; (rw [hat] at hk; simp [Value.ownBlock] at hk); (rw [hb] at hk; cases hk; have h7 := HP3.out.size; have h8 := lt_of_block HT0.out; omega))); have HC4 := As.mk hc4; clear ho1 hu1 hat hc4 hrow4) | (go_at_call 149; refine (nothing_fit).mono ?_; rintro r w3 ⟨T3, c3, rfl, hrow, hc3, hu⟩; have HP3 := As.mk (HW.out.trans hu (fun _ _ h => h)); have HR3 := As.mk hrow; clear hu hrow))
        refine ⟨?_⟩
        go_wp2
        go_roundg 0
        case measure => omega
        case rel => exact ⟨4, by omega, rfl, by first | rfl | go_num, HP5, ⟨fun _ => HK0.out⟩⟩
    · have HK0 := As.mk (HK.out (by decide))
      have hbl : w.heap.size < wr.heap.size := lt_of_block HRW.out
      have hcf : ∀ i, wr.frozen? ⟨w.heap.size, i, none⟩ = false := fun i => by simp [World.frozen?, HRW.out]
      obtain ⟨k0, k1, k2, k3, k4, k5, k6, k7⟩ := cells8 HRW.out
      go_wp2
      unfold Exit.noGoto
      exact bodyPost_ret (fit_end (rb := w.heap.size) rfl _ rfl (set8 (rb := w.heap.size) HRW.out _ _ _ _ _ _ _ _)) rfl ⟨repl 0 0 [], none, 0, 0, 1, rfl, set8_pure HUW.out (Nat.le_refl _) _ _ _ _ _ _ _ _, .inl rfl, Nat.le_refl _, by simp [repl], fun _ => ⟨rfl, rfl, rfl, rfl⟩, fun h => absurd h (by decide), fun _ h => absurd h HK0.out⟩
end Go.Proofs.YteeindicpbcjaaaGreatDoor
