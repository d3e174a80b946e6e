/- emenderlaw07.SchemaMay. -/
import Derived.Test.YtgidokgidlecmaaDoorMayW
namespace Go.Proofs.YtgidokgidlecmaaDoor
open Go.RowKit
set_option linter.unusedVariables false
set_option linter.unusedSimpArgs false

set_option maxRecDepth 100000 in
set_option maxHeartbeats 4000000 in
theorem SMay_long {w : World} {F : Nat → Prop} {A : Option Addr} {c : Nat} {l : List Tok} {at' : Int} (hr : tokR.row w F A l) (hl : l.length ≤ 1048576) (hlc : l.length ≤ c) (h1 : 200 < l.length) :
    Calls Tryd.prog 5 #[.slice A l.length c, .int .i64 at'] w fun r w' => r = .returned (.bool true) ∧ Pure w w' := by
  have HCA := As.mk (fun (W : World) (hu : Pure w W) (q : Nat) (hs : SchR W q houseRules houseGroups) => house_check (c := c) hs (Rp.row_pure hr hu) (by omega))
  have t1 : decide ((l.length : Int) > 200) = true := by simp; omega
  have t2 : decide ((200 : Int) < (l.length : Int)) = true := by simp; omega
  have t3 : decide (200 < l.length) = true := by simp; omega
  clear hr
  generalize houseCheck l = ck at *
  obtain ⟨f1, f2⟩ := ck
  go_enter Tryd.func5, Tryd.ntmps5
  go_wp2_with (first | (go_at_call 10; refine (awake7_calls _).mono ?_; rintro r w9 ⟨rfl, hu9⟩; have HU9 := As.mk (HU2.out.trans hu9 (fun _ _ h => h)); clear hu9) | (go_at_call 9; refine (HCA.out w1 HU1.out _ HS.out).mono ?_; rintro r w2 ⟨rfl, hu⟩; have HU2 := As.mk (HU1.out.trans hu (fun _ _ h => h)); have HS2 := As.mk (HS.out.pure hu); clear hu) | (go_at_call 6; refine (House_calls w).mono ?_; rintro r w1 ⟨cb, rfl, hs, hu⟩; have HS := As.mk hs; have HU1 := As.mk hu; clear hu hs))
  go_ret
  exact ⟨rfl, HU9.out⟩
set_option maxRecDepth 100000 in
set_option maxHeartbeats 4000000 in
theorem SMay_bad {w : World} {F : Nat → Prop} {A : Option Addr} {c : Nat} {l : List Tok} {at' : Int} (hr : tokR.row w F A l) (hl : l.length ≤ 1048576) (hlc : l.length ≤ c) (h1 : l.length ≤ 200) (hno : (houseCheck l).2 ≠ 0 ∨ at' < 0 ∨ (l.length : Int) < at') :
    Calls Tryd.prog 5 #[.slice A l.length c, .int .i64 at'] w fun r w' => r = .returned (.bool true) ∧ Pure w w' := by
  have HCA := As.mk (fun (W : World) (hu : Pure w W) (q : Nat) (hs : SchR W q houseRules houseGroups) => house_check (c := c) hs (Rp.row_pure hr hu) (by omega))
  have t1 : decide ((l.length : Int) > 200) = false := by simp; omega
  have t2 : decide ((200 : Int) < (l.length : Int)) = false := by simp; omega
  have t3 : decide (200 < l.length) = false := by simp; omega
  have HMN := As.mk (fun (W : World) (hu : Pure w W) (q : Nat) (hs : SchR W q houseRules houseGroups) => May_no (c := c) (t := 0) hs (Rp.row_pure hr hu) (by omega) hno)
  have HNO := As.mk hno
  clear hr hno
  generalize houseCheck l = ck at *
  obtain ⟨f1, f2⟩ := ck
  cases b1 : decide (f2 = 0) <;> cases b2 : decide (at' < 0) <;> cases b3 : decide ((l.length : Int) < at')
  all_goals first
    | (exfalso; have h1 := of_decide_eq_true b1; have h2 := of_decide_eq_false b2; have h3 := of_decide_eq_false b3; rcases HNO.out with h | h | h <;> first | exact h h1 | exact h2 h | exact h3 h)
    | skip
  all_goals
    have c1 : (f2 != 0) = !decide (f2 = 0) := rfl
    rw [b1] at c1
    simp only [Bool.not_false, Bool.not_true] at c1
    have c3 : decide (at' > (l.length : Int)) = decide ((l.length : Int) < at') := rfl
    rw [b3] at c3
    clear HNO b1
    go_enter Tryd.func5, Tryd.ntmps5
    go_wp2_with (first | (go_at_call 10; refine (awake7_calls _).mono ?_; rintro r w9 ⟨rfl, hu9⟩; have HU9 := As.mk (HU3.out.trans hu9 (fun _ _ h => h)); clear hu9) | (go_at_call 13; refine (HMN.out w2 HU2.out _ HS2.out).mono ?_; rintro r w3 ⟨rfl, hu⟩; have HU3 := As.mk (HU2.out.trans hu (fun _ _ h => h)); clear hu) | (go_at_call 9; refine (HCA.out w1 HU1.out _ HS.out).mono ?_; rintro r w2 ⟨rfl, hu⟩; have HU2 := As.mk (HU1.out.trans hu (fun _ _ h => h)); have HS2 := As.mk (HS.out.pure hu); clear hu) | (go_at_call 6; refine (House_calls w).mono ?_; rintro r w1 ⟨cb, rfl, hs, hu⟩; have HS := As.mk hs; have HU1 := As.mk hu; clear hu hs))
    go_ret
    exact ⟨rfl, HU9.out⟩
set_option maxRecDepth 100000 in
set_option maxHeartbeats 4000000 in
theorem SMay_main1 {w : World} {F : Nat → Prop} {A : Option Addr} {c : Nat} {l : List Tok} {n : Nat} (hr : tokR.row w F A l) (h1 : l.length ≤ 200) (hlc : l.length ≤ c) (ok : (houseCheck l).2 = 0) (hn : n ≤ l.length) (hcn : n < c) :
    Calls Tryd.prog 5 #[.slice A l.length c, .int .i64 n] w fun r w' => r = .returned (.bool true) ∧ Pure w w' := by
  have HCA := As.mk (fun (W : World) (hu : Pure w W) (q : Nat) (hs : SchR W q houseRules houseGroups) => house_check (c := c) hs (Rp.row_pure hr hu) (by omega))
  rw [ok] at HCA
  obtain ⟨R, hP⟩ := at_place ok h1 hn
  have HMAY := As.mk (fun (W : World) (hu : Pure w W) (q : Nat) (hs : SchR W q houseRules houseGroups) => May_ok (t := 0) hs (Rp.row_pure hr hu) (by omega) hlc ok hn hP)
  rw [may_iff hP] at HMAY
  obtain ⟨sp, hb, hsp, HHOLD⟩ : ∃ (sp : Spec) (hb : Bool), ((houseCheck (l.take n ++ letter :: l.drop n)).2 = 0 → hb = true ∧ sp.expr = textStar) ∧ As (∀ (W : World), Pure w W → ∀ q, SchR W q houseRules houseGroups → Calls Tryd.prog 14 #[.pointer (some ⟨q, 0, none⟩), .slice A l.length c, .int .i64 n] W fun r w' => r = .returned (.tuple #[sp.val, .bool hb]) ∧ Pure W w') := by
    rcases hP.whole with hw | ⟨j, yt, y, ha, hy, hy1, hyt, hyt1, hyR⟩
    · exact ⟨zeroSpec, false, fun h => absurd hw.1 (may_expr hP h).2, ⟨fun W hu q hs => Holds_none hs (Rp.row_pure hr hu) (by omega) hlc ok hn hw.1⟩⟩
    · obtain ⟨x, e⟩ := R
      exact ⟨x, true, fun h => ⟨rfl, (may_expr hP h).1⟩, ⟨fun W hu q hs => Holds_in hs (Rp.row_pure hr hu) (by omega) hlc ok hn ha hy hyt hyt1 hyR⟩⟩
  obtain ⟨b, o, rfl⟩ : ∃ b o, A = some ⟨b, o, none⟩ := by
    cases l with
    | nil =>
      rw [awake_nil] at ok
      exact absurd ok (by decide)
    | cons x r =>
      obtain ⟨b, o, hA, _⟩ := tok_at hr (j := 0) rfl
      exact ⟨b, o, hA⟩
  have HPRE := As.mk (show tokR.row w F (some ⟨b, o, none⟩) (l.take n) by have := Rp.row_seg hr 0 n; simpa using this)
  have HPOST := As.mk (show tokR.row w F (some ⟨b, o + n * 4, none⟩) (l.drop n) by have := Rp.row_seg hr n (l.length - n); rw [List.take_of_length_le (by rw [List.length_drop]; omega)] at this; exact this)
  have hcn0 : (c - n = 0) = False := by simp; omega
  have hcn1 : ¬ (c - n = 0) := by omega
  have HPL := As.mk (show (l.take n).length = n by rw [List.length_take]; omega)
  have HQL := As.mk (show (l.drop n).length = l.length - n from List.length_drop)
  have HCX := As.mk (fun (W : World) (q : Nat) (hs : SchR W q houseRules houseGroups) (A9 : Option Addr) (c9 : Nat) (F9 : Nat → Prop) (hr9 : tokR.row W F9 A9 (l.take n ++ [letter] ++ l.drop n)) => house_check (c := c9) hs hr9 (by simp; omega))
  rw [show l.take n ++ [letter] ++ l.drop n = l.take n ++ letter :: l.drop n by simp] at HCX
  have HXL := As.mk (show (l.take n ++ letter :: l.drop n).length = n + 1 + (l.length - n) by simp; omega)
  rw [HXL.out] at HCX
  have t1 : decide ((l.length : Int) > 200) = false := by simp; omega
  have t2 : decide ((200 : Int) < (l.length : Int)) = false := by simp; omega
  have t3 : decide (200 < l.length) = false := by simp; omega
  have t4 : decide ((n : Int) < 0) = false := by simp
  have t5 : decide ((n : Int) > (l.length : Int)) = false := by simp; omega
  have t6 : decide ((l.length : Int) < (n : Int)) = false := by simp; omega
  have t7 : decide (l.length < n) = false := by simp; omega
  have hnc : n ≤ c := by omega
  have HSP := As.mk hsp
  have HAP := As.mk (show l.take n ++ [letter] ++ l.drop n = l.take n ++ letter :: l.drop n by simp)
  clear hr ok hP hsp
  generalize houseCheck l = ckl at *
  generalize hck : houseCheck (l.take n ++ letter :: l.drop n) = ckx at *
  clear hck
  obtain ⟨f1, f2⟩ := ckx
  go_enter Tryd.func5, Tryd.ntmps5
  go_wp2_with (first | (go_at_call 9; refine (HCA.out w1 HU1.out _ HS.out).mono ?_; rintro r w2 ⟨rfl, hu⟩; have HU2 := As.mk (HU1.out.trans hu (fun _ _ h => h)); have HS2 := As.mk (HS.out.pure hu); clear hu; apply As.out) | (go_at_call 6; refine (House_calls w).mono ?_; rintro r w1 ⟨cb, rfl, hs, hu⟩; have HS := As.mk hs; have HU1 := As.mk hu; clear hu hs))
  refine ⟨?_⟩
  have HPB := As.mk (HU2.out.alloc (.cells #[] 31))
  go_wp2_with (at_builtin; refine Rp.append_row tokR (c := c) (Rp.own_empty0 (F := fun q => w2.heap.size ≤ q) tokR (heap_alloc_new w2 _) (Nat.le_refl _)) (Rp.row'_of (Rp.row_pure HPRE.out HPB.out) (fun _ _ h => h)) (Fz := fun _ => False) (fun _ h => h.elim) rfl _ _ 22 (.agg #[.int .i64 0, .int .i64 0, .int .i64 0, .int .i64 0]) 32 rfl Tryd.underlying22 tok_info rfl (by decide) (by decide) rfl (by rw [HPL.out]; rfl) (by rw [HPL.out]; simp; omega) ?_; intro v4 w4 ho4 hu4 hat4; rw [List.nil_append] at ho4; have HV4 := As.mk (hat_ge (B := w2.heap.size) hat4 (fun q hq => by injection hq with hq; (have e9 : w2.heap.size = q := hq); omega) (by simp)); obtain ⟨A4, c4, rfl, hl4, hr4⟩ := Rp.own_slice ho4; rw [HPL.out] at ho4 HV4; rw [HPL.out]; have HO4 := As.mk (tok_own_to (G := fun q => w2.heap.size ≤ q) ho4 HV4.out); have HP24 := As.mk (Upd.trans (Upd.alloc1 (fun _ => False) w2 (.cells #[] 31)) hu4 (fun q hq h => by injection h with h; (have e9 : w2.heap.size = q := h); omega)); clear ho4 hu4 hat4 hl4 hr4; apply As.out)
  refine ⟨?_⟩
  go_wp2_with (at_builtin; refine Rp.own_append tokR HO4.out letter [.int .i64 0, .int .i64 0, .int .i64 120, .int .i64 0] rfl (Fp := fun _ => False) (G := fun q => w2.heap.size ≤ q) (fun _ h => h.elim) (fun _ h _ => h) (fun q hq => by have := HP24.out.size; omega) rfl _ _ 22 (.agg #[.int .i64 0, .int .i64 0, .int .i64 0, .int .i64 0]) 32 rfl Tryd.underlying22 tok_info rfl (by decide) (by decide) rfl (by first | rfl | simp [Act.eval]) (by rw [HPL.out]; omega) ?_; intro v5 w5 ho5 hu5; have HP25 := As.mk (HP24.out.trans hu5 (fun q hq h => by have := HV4.out q h; omega)); obtain ⟨A5, c5, rfl, hl5, hr5⟩ := Rp.own_slice ho5; rw [show (l.take n ++ [letter]).length = n + 1 by rw [List.length_append, HPL.out]; rfl] at ho5; rw [show (l.take n ++ [letter]).length = n + 1 by rw [List.length_append, HPL.out]; rfl]; have HO5 := As.mk ho5; clear ho5 hu5 hl5 hr5; apply As.out)
  refine ⟨?_⟩
  go_wp2_with (at_builtin; refine Rp.append_row tokR (c := c - n) HO5.out (Rp.row'_of (Rp.row_pure HPOST.out (HU2.out.trans HP25.out (fun _ _ h => h))) (fun _ _ h => h)) (Fz := fun _ => False) (fun _ h => h.elim) rfl _ _ 22 (.agg #[.int .i64 0, .int .i64 0, .int .i64 0, .int .i64 0]) 32 rfl Tryd.underlying22 tok_info rfl (by decide) (by decide) rfl (by rw [HQL.out]; rfl) (by rw [HQL.out]; simp only [List.length_append, List.length_singleton, HPL.out]; omega) ?_; intro v6 w6 ho6 hu6 hat6; have HP26 := As.mk (HP25.out.trans hu6 (fun q hq h => by have := (Rp.own_block_lt HO5.out q h).1; omega)); obtain ⟨A6, c6, rfl, hl6, hr6⟩ := Rp.own_slice ho6; rw [HAP.out] at hr6; have HR6 := As.mk hr6; rw [HAP.out, HXL.out]; clear ho6 hu6 hat6 hl6 hr6; apply As.out)
  refine ⟨?_⟩
  have HU6 := As.mk (HU2.out.trans HP26.out (fun _ _ h => h))
  have HS6 := As.mk (HS2.out.pure HP26.out)
  obtain ⟨nm, ex, lf, mk, ls, ms, ln⟩ := sp
  cases m : decide (f2 = 0)
  · have m2 : (f2 == 0) = false := m
    have HMAY2 : As (∀ (W : World), Pure w W → ∀ q, SchR W q houseRules houseGroups → Calls Tryd.prog 13 #[.pointer (some ⟨q, 0, none⟩), .slice (some ⟨b, o, none⟩) l.length c, .int .i64 n, .int .i64 0] W fun r w' => r = .returned (.bool false) ∧ Pure W w') := ⟨fun W hu q hs => (HMAY.out W hu q hs).mono fun r w' h => ⟨h.1.trans (by rw [m]), h.2⟩⟩
    clear HMAY HSP m
    go_wp2_with (first | (go_at_call 10; refine (awake7_calls _).mono ?_; rintro r w9 ⟨rfl, hu9⟩; have HU9 := As.mk (HU9a.out.trans hu9 (fun _ _ h => h)); clear hu9) | (go_at_call 13; refine (HMAY2.out _ (HU8.out.alloc _) _ (HS8.out.pure (Upd.alloc1 _ _ _))).mono ?_; rintro r wa ⟨rfl, hu⟩; have HU9a := As.mk (Upd.trans (HU8.out.alloc _) hu (fun _ _ h => h)); clear hu) | (go_at_call 14; refine (HHOLD.out w7 HU7.out _ HS7.out).mono ?_; rintro r w8 ⟨rfl, hu⟩; have HU8 := As.mk (HU7.out.trans hu (fun _ _ h => h)); have HS8 := As.mk (HS7.out.pure hu); clear hu) | (go_at_call 9; refine (HCX.out w6 _ HS6.out _ _ _ HR6.out).mono ?_; rintro r w7 ⟨rfl, hu⟩; have HU7 := As.mk (HU6.out.trans hu (fun _ _ h => h)); have HS7 := As.mk (HS6.out.pure hu); clear hu))
    go_ret
    exact ⟨rfl, HU9.out⟩
  · have hf2 : f2 = 0 := of_decide_eq_true m
    obtain ⟨rfl, hex⟩ := HSP.out hf2
    simp only at hex
    subst hex
    have m2 : (f2 == 0) = true := m
    have HMAY2 : As (∀ (W : World), Pure w W → ∀ q, SchR W q houseRules houseGroups → Calls Tryd.prog 13 #[.pointer (some ⟨q, 0, none⟩), .slice (some ⟨b, o, none⟩) l.length c, .int .i64 n, .int .i64 0] W fun r w' => r = .returned (.bool true) ∧ Pure W w') := ⟨fun W hu q hs => (HMAY.out W hu q hs).mono fun r w' h => ⟨h.1.trans (by rw [m]), h.2⟩⟩
    have HBOX := As.mk (fun (W : World) => heap_alloc_new W (.cells #[.string nm, .string textStar, .bool lf, .int .i64 mk, .int .i64 ls, .int .i64 ms, .bool ln] 40))
    clear HMAY HSP m hf2
    go_wp2_with (first | (go_at_call 13; refine (HMAY2.out _ (HU8.out.alloc _) _ (HS8.out.pure (Upd.alloc1 _ _ _))).mono ?_; rintro r wa ⟨rfl, hu⟩; have HPA := As.mk hu; have HU9a := As.mk (Upd.trans (HU8.out.alloc _) hu (fun _ _ h => h)); clear hu; apply As.out) | (go_at_call 14; refine (HHOLD.out w7 HU7.out _ HS7.out).mono ?_; rintro r w8 ⟨rfl, hu⟩; have HU8 := As.mk (HU7.out.trans hu (fun _ _ h => h)); have HS8 := As.mk (HS7.out.pure hu); clear hu) | (go_at_call 9; refine (HCX.out w6 _ HS6.out _ _ _ HR6.out).mono ?_; rintro r w7 ⟨rfl, hu⟩; have HU7 := As.mk (HU6.out.trans hu (fun _ _ h => h)); have HS7 := As.mk (HS6.out.pure hu); clear hu))
    refine ⟨?_⟩
    have hbx := (HPA.out.block w8.heap.size (by simp) (fun h => h)).trans (HBOX.out w8)
    have q1 : wa.cell? ⟨w8.heap.size, 1, none⟩ = some (.string textStar) := by unfold World.cell?; simp only [hbx]; rfl
    clear hbx
    unfold textStar at q1
    go_wp2_with (go_at_call 10; refine (awake7_calls _).mono ?_; rintro r w9 ⟨rfl, hu9⟩; have HU9 := As.mk (HU9a.out.trans hu9 (fun _ _ h => h)); clear hu9)
    go_ret
    exact ⟨rfl, HU9.out⟩
set_option maxRecDepth 100000 in
set_option maxHeartbeats 4000000 in
theorem SMay_main2 {w : World} {F : Nat → Prop} {A : Option Addr} {c : Nat} {l : List Tok} {n : Nat} (hr : tokR.row w F A l) (h1 : l.length ≤ 200) (hlc : l.length ≤ c) (ok : (houseCheck l).2 = 0) (hn : n ≤ l.length) (hcn : n = c) :
    Calls Tryd.prog 5 #[.slice A l.length c, .int .i64 n] w fun r w' => r = .returned (.bool true) ∧ Pure w w' := by
  have HCA := As.mk (fun (W : World) (hu : Pure w W) (q : Nat) (hs : SchR W q houseRules houseGroups) => house_check (c := c) hs (Rp.row_pure hr hu) (by omega))
  rw [ok] at HCA
  obtain ⟨R, hP⟩ := at_place ok h1 hn
  have HMAY := As.mk (fun (W : World) (hu : Pure w W) (q : Nat) (hs : SchR W q houseRules houseGroups) => May_ok (t := 0) hs (Rp.row_pure hr hu) (by omega) hlc ok hn hP)
  rw [may_iff hP] at HMAY
  obtain ⟨sp, hb, hsp, HHOLD⟩ : ∃ (sp : Spec) (hb : Bool), ((houseCheck (l.take n ++ letter :: l.drop n)).2 = 0 → hb = true ∧ sp.expr = textStar) ∧ As (∀ (W : World), Pure w W → ∀ q, SchR W q houseRules houseGroups → Calls Tryd.prog 14 #[.pointer (some ⟨q, 0, none⟩), .slice A l.length c, .int .i64 n] W fun r w' => r = .returned (.tuple #[sp.val, .bool hb]) ∧ Pure W w') := by
    rcases hP.whole with hw | ⟨j, yt, y, ha, hy, hy1, hyt, hyt1, hyR⟩
    · exact ⟨zeroSpec, false, fun h => absurd hw.1 (may_expr hP h).2, ⟨fun W hu q hs => Holds_none hs (Rp.row_pure hr hu) (by omega) hlc ok hn hw.1⟩⟩
    · obtain ⟨x, e⟩ := R
      exact ⟨x, true, fun h => ⟨rfl, (may_expr hP h).1⟩, ⟨fun W hu q hs => Holds_in hs (Rp.row_pure hr hu) (by omega) hlc ok hn ha hy hyt hyt1 hyR⟩⟩
  obtain ⟨b, o, rfl⟩ : ∃ b o, A = some ⟨b, o, none⟩ := by
    cases l with
    | nil =>
      rw [awake_nil] at ok
      exact absurd ok (by decide)
    | cons x r =>
      obtain ⟨b, o, hA, _⟩ := tok_at hr (j := 0) rfl
      exact ⟨b, o, hA⟩
  have HPRE := As.mk (show tokR.row w F (some ⟨b, o, none⟩) (l.take n) by have := Rp.row_seg hr 0 n; simpa using this)
  subst hcn
  have HPOST := As.mk (show tokR.row w F (some ⟨b, o, none⟩) (l.drop n) from .inl (List.drop_eq_nil_of_le (by omega)))
  have HPL := As.mk (show (l.take n).length = n by rw [List.length_take]; omega)
  have HQL := As.mk (show (l.drop n).length = 0 by rw [List.length_drop]; omega)
  have HCX := As.mk (fun (W : World) (q : Nat) (hs : SchR W q houseRules houseGroups) (A9 : Option Addr) (c9 : Nat) (F9 : Nat → Prop) (hr9 : tokR.row W F9 A9 (l.take n ++ [letter] ++ l.drop n)) => house_check (c := c9) hs hr9 (by simp; omega))
  rw [show l.take n ++ [letter] ++ l.drop n = l.take n ++ letter :: l.drop n by simp] at HCX
  have HXL := As.mk (show (l.take n ++ letter :: l.drop n).length = n + 1 by simp; omega)
  rw [HXL.out] at HCX
  have t1 : decide ((l.length : Int) > 200) = false := by simp; omega
  have t2 : decide ((200 : Int) < (l.length : Int)) = false := by simp; omega
  have t3 : decide (200 < l.length) = false := by simp; omega
  have t4 : decide ((n : Int) < 0) = false := by simp
  have t5 : decide ((n : Int) > (l.length : Int)) = false := by simp; omega
  have t6 : decide ((l.length : Int) < (n : Int)) = false := by simp; omega
  have t7 : decide (l.length < n) = false := by simp; omega
  have hnc : n ≤ n := by omega
  have HSP := As.mk hsp
  have HAP := As.mk (show l.take n ++ [letter] ++ l.drop n = l.take n ++ letter :: l.drop n by simp)
  clear hr ok hP hsp
  generalize houseCheck l = ckl at *
  generalize hck : houseCheck (l.take n ++ letter :: l.drop n) = ckx at *
  clear hck
  obtain ⟨f1, f2⟩ := ckx
  go_enter Tryd.func5, Tryd.ntmps5
  go_wp2_with (first | (go_at_call 9; refine (HCA.out w1 HU1.out _ HS.out).mono ?_; rintro r w2 ⟨rfl, hu⟩; have HU2 := As.mk (HU1.out.trans hu (fun _ _ h => h)); have HS2 := As.mk (HS.out.pure hu); clear hu; apply As.out) | (go_at_call 6; refine (House_calls w).mono ?_; rintro r w1 ⟨cb, rfl, hs, hu⟩; have HS := As.mk hs; have HU1 := As.mk hu; clear hu hs))
  refine ⟨?_⟩
  have HPB := As.mk (HU2.out.alloc (.cells #[] 31))
  go_wp2_with (at_builtin; refine Rp.append_row tokR (c := n) (Rp.own_empty0 (F := fun q => w2.heap.size ≤ q) tokR (heap_alloc_new w2 _) (Nat.le_refl _)) (Rp.row'_of (Rp.row_pure HPRE.out HPB.out) (fun _ _ h => h)) (Fz := fun _ => False) (fun _ h => h.elim) rfl _ _ 22 (.agg #[.int .i64 0, .int .i64 0, .int .i64 0, .int .i64 0]) 32 rfl Tryd.underlying22 tok_info rfl (by decide) (by decide) rfl (by rw [HPL.out]; rfl) (by rw [HPL.out]; simp; omega) ?_; intro v4 w4 ho4 hu4 hat4; rw [List.nil_append] at ho4; have HV4 := As.mk (hat_ge (B := w2.heap.size) hat4 (fun q hq => by injection hq with hq; (have e9 : w2.heap.size = q := hq); omega) (by simp)); obtain ⟨A4, c4, rfl, hl4, hr4⟩ := Rp.own_slice ho4; rw [HPL.out] at ho4 HV4; rw [HPL.out]; have HO4 := As.mk (tok_own_to (G := fun q => w2.heap.size ≤ q) ho4 HV4.out); have HP24 := As.mk (Upd.trans (Upd.alloc1 (fun _ => False) w2 (.cells #[] 31)) hu4 (fun q hq h => by injection h with h; (have e9 : w2.heap.size = q := h); omega)); clear ho4 hu4 hat4 hl4 hr4; apply As.out)
  refine ⟨?_⟩
  go_wp2_with (at_builtin; refine Rp.own_append tokR HO4.out letter [.int .i64 0, .int .i64 0, .int .i64 120, .int .i64 0] rfl (Fp := fun _ => False) (G := fun q => w2.heap.size ≤ q) (fun _ h => h.elim) (fun _ h _ => h) (fun q hq => by have := HP24.out.size; omega) rfl _ _ 22 (.agg #[.int .i64 0, .int .i64 0, .int .i64 0, .int .i64 0]) 32 rfl Tryd.underlying22 tok_info rfl (by decide) (by decide) rfl (by first | rfl | simp [Act.eval]) (by rw [HPL.out]; omega) ?_; intro v5 w5 ho5 hu5; have HP25 := As.mk (HP24.out.trans hu5 (fun q hq h => by have := HV4.out q h; omega)); obtain ⟨A5, c5, rfl, hl5, hr5⟩ := Rp.own_slice ho5; rw [show (l.take n ++ [letter]).length = n + 1 by rw [List.length_append, HPL.out]; rfl] at ho5; rw [show (l.take n ++ [letter]).length = n + 1 by rw [List.length_append, HPL.out]; rfl]; have HO5 := As.mk ho5; clear ho5 hu5 hl5 hr5; apply As.out)
  refine ⟨?_⟩
  go_wp2_with (at_builtin; refine Rp.append_row tokR (c := 0) HO5.out (Rp.row'_of (Rp.row_pure HPOST.out (HU2.out.trans HP25.out (fun _ _ h => h))) (fun _ _ h => h)) (Fz := fun _ => False) (fun _ h => h.elim) rfl _ _ 22 (.agg #[.int .i64 0, .int .i64 0, .int .i64 0, .int .i64 0]) 32 rfl Tryd.underlying22 tok_info rfl (by decide) (by decide) rfl (by rw [HQL.out]; rfl) (by rw [HQL.out]; simp only [List.length_append, List.length_singleton, HPL.out]; omega) ?_; intro v6 w6 ho6 hu6 hat6; have HP26 := As.mk (HP25.out.trans hu6 (fun q hq h => by have := (Rp.own_block_lt HO5.out q h).1; omega)); obtain ⟨A6, c6, rfl, hl6, hr6⟩ := Rp.own_slice ho6; rw [HAP.out] at hr6; have HR6 := As.mk hr6; rw [HAP.out, HXL.out]; clear ho6 hu6 hat6 hl6 hr6; apply As.out)
  refine ⟨?_⟩
  have HU6 := As.mk (HU2.out.trans HP26.out (fun _ _ h => h))
  have HS6 := As.mk (HS2.out.pure HP26.out)
  obtain ⟨nm, ex, lf, mk, ls, ms, ln⟩ := sp
  cases m : decide (f2 = 0)
  · have m2 : (f2 == 0) = false := m
    have HMAY2 : As (∀ (W : World), Pure w W → ∀ q, SchR W q houseRules houseGroups → Calls Tryd.prog 13 #[.pointer (some ⟨q, 0, none⟩), .slice (some ⟨b, o, none⟩) l.length n, .int .i64 n, .int .i64 0] W fun r w' => r = .returned (.bool false) ∧ Pure W w') := ⟨fun W hu q hs => (HMAY.out W hu q hs).mono fun r w' h => ⟨h.1.trans (by rw [m]), h.2⟩⟩
    clear HMAY HSP m
    go_wp2_with (first | (go_at_call 10; refine (awake7_calls _).mono ?_; rintro r w9 ⟨rfl, hu9⟩; have HU9 := As.mk (HU9a.out.trans hu9 (fun _ _ h => h)); clear hu9) | (go_at_call 13; refine (HMAY2.out _ (HU8.out.alloc _) _ (HS8.out.pure (Upd.alloc1 _ _ _))).mono ?_; rintro r wa ⟨rfl, hu⟩; have HU9a := As.mk (Upd.trans (HU8.out.alloc _) hu (fun _ _ h => h)); clear hu) | (go_at_call 14; refine (HHOLD.out w7 HU7.out _ HS7.out).mono ?_; rintro r w8 ⟨rfl, hu⟩; have HU8 := As.mk (HU7.out.trans hu (fun _ _ h => h)); have HS8 := As.mk (HS7.out.pure hu); clear hu) | (go_at_call 9; refine (HCX.out w6 _ HS6.out _ _ _ HR6.out).mono ?_; rintro r w7 ⟨rfl, hu⟩; have HU7 := As.mk (HU6.out.trans hu (fun _ _ h => h)); have HS7 := As.mk (HS6.out.pure hu); clear hu))
    go_ret
    exact ⟨rfl, HU9.out⟩
  · have hf2 : f2 = 0 := of_decide_eq_true m
    obtain ⟨rfl, hex⟩ := HSP.out hf2
    simp only at hex
    subst hex
    have m2 : (f2 == 0) = true := m
    have HMAY2 : As (∀ (W : World), Pure w W → ∀ q, SchR W q houseRules houseGroups → Calls Tryd.prog 13 #[.pointer (some ⟨q, 0, none⟩), .slice (some ⟨b, o, none⟩) l.length n, .int .i64 n, .int .i64 0] W fun r w' => r = .returned (.bool true) ∧ Pure W w') := ⟨fun W hu q hs => (HMAY.out W hu q hs).mono fun r w' h => ⟨h.1.trans (by rw [m]), h.2⟩⟩
    have HBOX := As.mk (fun (W : World) => heap_alloc_new W (.cells #[.string nm, .string textStar, .bool lf, .int .i64 mk, .int .i64 ls, .int .i64 ms, .bool ln] 40))
    clear HMAY HSP m hf2
    go_wp2_with (first | (go_at_call 13; refine (HMAY2.out _ (HU8.out.alloc _) _ (HS8.out.pure (Upd.alloc1 _ _ _))).mono ?_; rintro r wa ⟨rfl, hu⟩; have HPA := As.mk hu; have HU9a := As.mk (Upd.trans (HU8.out.alloc _) hu (fun _ _ h => h)); clear hu; apply As.out) | (go_at_call 14; refine (HHOLD.out w7 HU7.out _ HS7.out).mono ?_; rintro r w8 ⟨rfl, hu⟩; have HU8 := As.mk (HU7.out.trans hu (fun _ _ h => h)); have HS8 := As.mk (HS7.out.pure hu); clear hu) | (go_at_call 9; refine (HCX.out w6 _ HS6.out _ _ _ HR6.out).mono ?_; rintro r w7 ⟨rfl, hu⟩; have HU7 := As.mk (HU6.out.trans hu (fun _ _ h => h)); have HS7 := As.mk (HS6.out.pure hu); clear hu))
    refine ⟨?_⟩
    have hbx := (HPA.out.block w8.heap.size (by simp) (fun h => h)).trans (HBOX.out w8)
    have q1 : wa.cell? ⟨w8.heap.size, 1, none⟩ = some (.string textStar) := by unfold World.cell?; simp only [hbx]; rfl
    clear hbx
    unfold textStar at q1
    go_wp2_with (go_at_call 10; refine (awake7_calls _).mono ?_; rintro r w9 ⟨rfl, hu9⟩; have HU9 := As.mk (HU9a.out.trans hu9 (fun _ _ h => h)); clear hu9)
    go_ret
    exact ⟨rfl, HU9.out⟩
theorem SchemaMay_walk {w : World} {F : Nat → Prop} {A : Option Addr} {c : Nat} {l : List Tok} {at' : Int} (hr : tokR.row w F A l) (hl : l.length ≤ 1048576) (hlc : l.length ≤ c) :
    Calls Tryd.prog 5 #[.slice A l.length c, .int .i64 at'] w fun r w' => r = .returned (.bool true) ∧ Pure w w' := by
  by_cases h1 : l.length ≤ 200
  · by_cases h2 : (houseCheck l).2 ≠ 0 ∨ at' < 0 ∨ (l.length : Int) < at'
    · exact SMay_bad hr hl hlc h1 h2
    · obtain ⟨n, rfl⟩ : ∃ n : Nat, at' = n := ⟨at'.toNat, by omega⟩
      by_cases h3 : n < c
      · exact SMay_main1 hr h1 hlc (by omega) (by omega) h3
      · exact SMay_main2 hr h1 hlc (by omega) (by omega) (by omega)
  · exact SMay_long hr hl hlc (by omega)
end Go.Proofs.YtgidokgidlecmaaDoor
