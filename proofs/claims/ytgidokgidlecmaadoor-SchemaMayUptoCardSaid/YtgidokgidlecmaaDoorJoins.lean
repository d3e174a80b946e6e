/- emenderlaw07.SchemaJoins. -/
import Derived.Test.YtgidokgidlecmaaDoorJoinsP
namespace Go.Proofs.YtgidokgidlecmaaDoor
open Go.RowKit
set_option linter.unusedVariables false
set_option linter.unusedSimpArgs false

theorem kdGo_len (i : Int) : ∀ (l : List Tok) (k d : Nat), (kdGo i k d l).length ≤ l.length := by
  intro l
  induction l with
  | nil => intro k d; simp [kdGo]
  | cons x r ih =>
    intro k d
    rw [kdGo]
    split
    · split
      · simp
      · have := ih (k + 1) (d - 1)
        simp only [List.length_cons]
        omega
    · rw [List.length_append]
      have h1 := ih (k + 1) (if x.k = 1 then d + 1 else d)
      have h2 : (if d = 0 ∧ 0 ≤ x.k ∧ x.k ≤ 3 then [(k : Int)] else []).length ≤ 1 := by split <;> simp
      simp only [List.length_cons]
      omega
theorem kidsL_len (l : List Tok) (i : Int) : (kidsL l i).length ≤ l.length := by
  unfold kidsL
  have := kdGo_len i (l.drop (i + 1).toNat) (i + 1).toNat 0
  rw [List.length_drop] at this
  omega
theorem Rp.own_empty0 {α : Type} (d : Rp α) {e : Nat} {w : World} {F : Nat → Prop} {b : Nat} (hb : w.heap[b]? = some (.cells #[] e (0, 0))) (hF : F b) : d.own e w F (.slice (some ⟨b, 0, none⟩) 0 0) [] :=
  ⟨[], ⟨by simp, .inr ⟨b, 0, #[], rfl, Nat.zero_le _, hb, Nat.le_refl _, Nat.zero_le _, by simp, by simp⟩⟩, fun k hk => by simp [Value.ownBlock] at hk; subst hk; exact hF, Reps.nil _ _⟩
theorem tok_own_to {e : Nat} {w : World} {F G : Nat → Prop} {v : Value} {xs : List Tok} (h : tokR.own e w F v xs) (hG : ∀ k, v.ownBlock = some k → G k) : tokR.own e w G v xs := by
  obtain ⟨inner, ho, hF, hr⟩ := h
  exact ⟨inner, ho, hG, hr⟩
theorem hat_ge {w : World} {v v1 : Value} {B : Nat} (h : v1.ownBlock = v.ownBlock ∨ ∃ b, v1.ownBlock = some b ∧ w.heap.size ≤ b) (h0 : ∀ q, v.ownBlock = some q → B ≤ q) (hB : B ≤ w.heap.size) : ∀ q, v1.ownBlock = some q → B ≤ q := by
  intro q hq
  rcases h with h | ⟨b, hb, hle⟩
  · rw [h] at hq
    exact h0 q hq
  · rw [hb] at hq
    injection hq with hq
    omega
theorem Rp.row_seg {α : Type} {d : Rp α} {w : World} {F : Nat → Prop} {b o : Nat} {xs : List α} (h : d.row w F (some ⟨b, o, none⟩) xs) (i n : Nat) : d.row w F (some ⟨b, o + i * d.sz, none⟩) ((xs.drop i).take n) := by
  rcases h with rfl | ⟨b', o', hA, hF, hb, hc⟩
  · exact .inl (by simp)
  · simp only [Option.some.injEq, Addr.mk.injEq] at hA
    obtain ⟨rfl, rfl, _⟩ := hA
    refine .inr ⟨b, o + i * d.sz, rfl, hF, hb, fun j x hx => ?_⟩
    rw [List.getElem?_take] at hx
    split at hx
    · rw [List.getElem?_drop] at hx
      obtain ⟨cs, h1, h2⟩ := hc (i + j) x hx
      refine ⟨cs, h1, fun t u hu => ?_⟩
      rw [Nat.add_assoc o, ← Nat.add_mul]
      exact h2 t u hu
    · cases hx
set_option maxRecDepth 100000 in
set_option maxHeartbeats 4000000 in
theorem Joins_longA {w : World} {F G : Nat → Prop} {A B : Option Addr} {ca cb' : Nat} {a b : List Tok} (ha : tokR.row w F A a) (hb : tokR.row w G B b) (hal : a.length ≤ 1048576) (hbl : b.length ≤ 1048576) (hca : a.length ≤ ca) (h1 : 300 < a.length) :
    Calls Tryd.prog 4 #[.slice A a.length ca, .slice B b.length cb'] w fun r w' => r = .returned (.bool true) ∧ Pure w w' := by
  have t1 : decide ((a.length : Int) > 300) = true := by simp; omega
  have t2 : decide ((300 : Int) < (a.length : Int)) = true := by simp; omega
  have t3 : decide (300 < a.length) = true := by simp; omega
  clear ha hb
  go_enter Tryd.func4, Tryd.ntmps4
  go_wp2_with (go_at_call 10; refine (awake7_calls _).mono ?_; rintro r w9 ⟨rfl, hu9⟩; have HU9 := As.mk (hu9); clear hu9)
  go_ret
  exact ⟨rfl, HU9.out⟩
set_option maxRecDepth 100000 in
set_option maxHeartbeats 4000000 in
theorem Joins_longB {w : World} {F G : Nat → Prop} {A B : Option Addr} {ca cb' : Nat} {a b : List Tok} (ha : tokR.row w F A a) (hb : tokR.row w G B b) (hal : a.length ≤ 1048576) (hbl : b.length ≤ 1048576) (hca : a.length ≤ ca) (h1 : a.length ≤ 300) (h2 : 300 < b.length) :
    Calls Tryd.prog 4 #[.slice A a.length ca, .slice B b.length cb'] w fun r w' => r = .returned (.bool true) ∧ Pure w w' := by
  have t1 : decide ((a.length : Int) > 300) = false := by simp; omega
  have t2 : decide ((300 : Int) < (a.length : Int)) = false := by simp; omega
  have t3 : decide (300 < a.length) = false := by simp; omega
  have t4 : decide ((b.length : Int) > 300) = true := by simp; omega
  have t5 : decide ((300 : Int) < (b.length : Int)) = true := by simp; omega
  have t6 : decide (300 < b.length) = true := by simp; omega
  clear ha hb
  go_enter Tryd.func4, Tryd.ntmps4
  go_wp2_with (go_at_call 10; refine (awake7_calls _).mono ?_; rintro r w9 ⟨rfl, hu9⟩; have HU9 := As.mk (hu9); clear hu9)
  go_ret
  exact ⟨rfl, HU9.out⟩
set_option maxRecDepth 100000 in
set_option maxHeartbeats 4000000 in
theorem Joins_badA {w : World} {F G : Nat → Prop} {A B : Option Addr} {ca cb' : Nat} {a b : List Tok} (ha : tokR.row w F A a) (hb : tokR.row w G B b) (hal : a.length ≤ 1048576) (hbl : b.length ≤ 1048576) (hca : a.length ≤ ca) (h1 : a.length ≤ 300) (h2 : b.length ≤ 300) (h3 : (houseCheck a).2 ≠ 0) :
    Calls Tryd.prog 4 #[.slice A a.length ca, .slice B b.length cb'] w fun r w' => r = .returned (.bool true) ∧ Pure w w' := by
  have t1 : decide ((a.length : Int) > 300) = false := by simp; omega
  have t2 : decide ((300 : Int) < (a.length : Int)) = false := by simp; omega
  have t3 : decide (300 < a.length) = false := by simp; omega
  have t4 : decide ((b.length : Int) > 300) = false := by simp; omega
  have t5 : decide ((300 : Int) < (b.length : Int)) = false := by simp; omega
  have t6 : decide (300 < b.length) = false := by simp; omega
  have HCA := As.mk (fun (W : World) (hu : Pure w W) (q : Nat) (hs : SchR W q houseRules houseGroups) => house_check (c := ca) hs (Rp.row_pure ha hu) (by omega))
  have HCB := As.mk (fun (W : World) (hu : Pure w W) (q : Nat) (hs : SchR W q houseRules houseGroups) => house_check (c := cb') hs (Rp.row_pure hb hu) (by omega))
  have u1 : ((houseCheck a).2 != 0) = true := by simpa using h3
  have u2 : ((houseCheck a).2 == 0) = false := by simpa using h3
  clear h3
  clear ha hb
  generalize houseCheck a = ra at *
  generalize houseCheck b = rb at *
  go_enter Tryd.func4, Tryd.ntmps4
  go_wp2_with (first | (go_at_call 10; refine (awake7_calls _).mono ?_; rintro r w9 ⟨rfl, hu9⟩; have HU9 := As.mk (HU3.out.trans hu9 (fun _ _ h => h)); clear hu9) | (go_at_call 9; refine (HCB.out w2 HU2.out _ HS2.out).mono ?_; rintro r w3 ⟨rfl, hu⟩; have HU3 := As.mk (HU2.out.trans hu (fun _ _ h => h)); have HS3 := As.mk (HS2.out.pure hu); clear hu) | (go_at_call 9; refine (HCA.out w1 HU1.out _ HS.out).mono ?_; rintro r w2 ⟨rfl, hu⟩; have HU2 := As.mk (HU1.out.trans hu (fun _ _ h => h)); have HS2 := As.mk (HS.out.pure hu); clear hu) | (go_at_call 6; refine (House_calls w).mono ?_; rintro r w1 ⟨cb, rfl, hs, hu⟩; have HS := As.mk hs; have HU1 := As.mk hu; clear hu hs))
  go_ret
  exact ⟨rfl, HU9.out⟩
set_option maxRecDepth 100000 in
set_option maxHeartbeats 4000000 in
theorem Joins_badB {w : World} {F G : Nat → Prop} {A B : Option Addr} {ca cb' : Nat} {a b : List Tok} (ha : tokR.row w F A a) (hb : tokR.row w G B b) (hal : a.length ≤ 1048576) (hbl : b.length ≤ 1048576) (hca : a.length ≤ ca) (h1 : a.length ≤ 300) (h2 : b.length ≤ 300) (h3 : (houseCheck a).2 = 0) (h4 : (houseCheck b).2 ≠ 0) :
    Calls Tryd.prog 4 #[.slice A a.length ca, .slice B b.length cb'] w fun r w' => r = .returned (.bool true) ∧ Pure w w' := by
  have t1 : decide ((a.length : Int) > 300) = false := by simp; omega
  have t2 : decide ((300 : Int) < (a.length : Int)) = false := by simp; omega
  have t3 : decide (300 < a.length) = false := by simp; omega
  have t4 : decide ((b.length : Int) > 300) = false := by simp; omega
  have t5 : decide ((300 : Int) < (b.length : Int)) = false := by simp; omega
  have t6 : decide (300 < b.length) = false := by simp; omega
  have HCA := As.mk (fun (W : World) (hu : Pure w W) (q : Nat) (hs : SchR W q houseRules houseGroups) => house_check (c := ca) hs (Rp.row_pure ha hu) (by omega))
  have HCB := As.mk (fun (W : World) (hu : Pure w W) (q : Nat) (hs : SchR W q houseRules houseGroups) => house_check (c := cb') hs (Rp.row_pure hb hu) (by omega))
  have u1 : ((houseCheck b).2 != 0) = true := by simpa using h4
  have u2 : ((houseCheck b).2 == 0) = false := by simpa using h4
  rw [h3] at HCA
  clear h3 h4
  clear ha hb
  generalize houseCheck a = ra at *
  generalize houseCheck b = rb at *
  go_enter Tryd.func4, Tryd.ntmps4
  go_wp2_with (first | (go_at_call 10; refine (awake7_calls _).mono ?_; rintro r w9 ⟨rfl, hu9⟩; have HU9 := As.mk (HU3.out.trans hu9 (fun _ _ h => h)); clear hu9) | (go_at_call 9; refine (HCB.out w2 HU2.out _ HS2.out).mono ?_; rintro r w3 ⟨rfl, hu⟩; have HU3 := As.mk (HU2.out.trans hu (fun _ _ h => h)); have HS3 := As.mk (HS2.out.pure hu); clear hu) | (go_at_call 9; refine (HCA.out w1 HU1.out _ HS.out).mono ?_; rintro r w2 ⟨rfl, hu⟩; have HU2 := As.mk (HU1.out.trans hu (fun _ _ h => h)); have HS2 := As.mk (HS.out.pure hu); clear hu) | (go_at_call 6; refine (House_calls w).mono ?_; rintro r w1 ⟨cb, rfl, hs, hu⟩; have HS := As.mk hs; have HU1 := As.mk hu; clear hu hs))
  go_ret
  exact ⟨rfl, HU9.out⟩
set_option maxRecDepth 100000 in
set_option maxHeartbeats 4000000 in
theorem Joins_main {w : World} {F G : Nat → Prop} {A B : Option Addr} {ca cb' : Nat} {a b : List Tok} (ha : tokR.row w F A a) (hb : tokR.row w G B b) (hal : a.length ≤ 1048576) (hbl : b.length ≤ 1048576) (hca : a.length ≤ ca) (h1 : a.length ≤ 300) (h2 : b.length ≤ 300) (h3 : (houseCheck a).2 = 0) (h4 : (houseCheck b).2 = 0) :
    Calls Tryd.prog 4 #[.slice A a.length ca, .slice B b.length cb'] w fun r w' => r = .returned (.bool true) ∧ Pure w w' := by
  have t1 : decide ((a.length : Int) > 300) = false := by simp; omega
  have t2 : decide ((300 : Int) < (a.length : Int)) = false := by simp; omega
  have t3 : decide (300 < a.length) = false := by simp; omega
  have t4 : decide ((b.length : Int) > 300) = false := by simp; omega
  have t5 : decide ((300 : Int) < (b.length : Int)) = false := by simp; omega
  have t6 : decide (300 < b.length) = false := by simp; omega
  have HCA := As.mk (fun (W : World) (hu : Pure w W) (q : Nat) (hs : SchR W q houseRules houseGroups) => house_check (c := ca) hs (Rp.row_pure ha hu) (by omega))
  have HCB := As.mk (fun (W : World) (hu : Pure w W) (q : Nat) (hs : SchR W q houseRules houseGroups) => house_check (c := cb') hs (Rp.row_pure hb hu) (by omega))
  have HRA := As.mk ha
  have HRB := As.mk hb
  have HJ := As.mk (joins_ok h3 h4 (by omega))
  have HK := As.mk (kid_ok h3)
  have HN := As.mk (kids_ne h3)
  have HKL := As.mk (show (kidsL a (-1)).length ≤ 1048576 by have := kidsL_len a (-1); omega)
  have HKD := As.mk (fun (W : World) (hu : Pure w W) => Kids_whole (c := ca) (Rp.row_pure ha hu) (by omega))
  have HCJ := As.mk (fun (W : World) (q : Nat) (hs : SchR W q houseRules houseGroups) (A9 : Option Addr) (c9 : Nat) (F9 : Nat → Prop) (hr : tokR.row W F9 A9 (a ++ b)) => house_check (c := c9) hs hr (by simp; omega))
  rw [HJ.out] at HCJ
  rw [List.length_append] at HCJ
  rw [h3] at HCA
  rw [h4] at HCB
  clear ha hb h3 h4
  generalize (houseCheck a).1 = ra at *
  generalize (houseCheck b).1 = rb at *
  generalize (houseCheck (a ++ b)).1 = rab at *
  go_enter Tryd.func4, Tryd.ntmps4
  go_wp2_with (first | (go_at_call 9; refine (HCB.out w2 HU2.out _ HS2.out).mono ?_; rintro r w3 ⟨rfl, hu⟩; have HU3 := As.mk (HU2.out.trans hu (fun _ _ h => h)); have HS3 := As.mk (HS2.out.pure hu); clear hu; apply As.out) | (go_at_call 9; refine (HCA.out w1 HU1.out _ HS.out).mono ?_; rintro r w2 ⟨rfl, hu⟩; have HU2 := As.mk (HU1.out.trans hu (fun _ _ h => h)); have HS2 := As.mk (HS.out.pure hu); clear hu) | (go_at_call 6; refine (House_calls w).mono ?_; rintro r w1 ⟨cb, rfl, hs, hu⟩; have HS := As.mk hs; have HU1 := As.mk hu; clear hu hs))
  refine ⟨?_⟩
  have HPB := As.mk (HU3.out.alloc (.cells #[] 31))
  go_wp2_with ((at_builtin; refine Rp.append_row tokR (c := ca) (Rp.own_empty0 (F := fun q => w3.heap.size ≤ q) tokR (heap_alloc_new w3 _) (Nat.le_refl _)) (Rp.row'_of (Rp.row_pure HRA.out HPB.out) (fun _ _ h => h)) (Fz := fun _ => False) (fun _ h => h.elim) rfl _ _ 22 (.agg #[.int .i64 0, .int .i64 0, .int .i64 0, .int .i64 0]) 32 rfl Tryd.underlying22 tok_info rfl (by decide) (by decide) rfl rfl (by simp; omega) ?_; intro v4 w4 ho4 hu4 hat4; rw [List.nil_append] at ho4; have HV4 := As.mk (hat_ge (B := w3.heap.size) hat4 (fun q hq => by injection hq with hq; (have e9 : w3.heap.size = q := hq); omega) (by simp)); obtain ⟨A4, c4, rfl, hl4, hr4⟩ := Rp.own_slice ho4; have HO4 := As.mk (tok_own_to (G := fun q => w3.heap.size ≤ q) ho4 HV4.out); have HP34 := As.mk (Upd.trans (Upd.alloc1 (fun _ => False) w3 (.cells #[] 31)) hu4 (fun q hq h => by injection h with h; (have e9 : w3.heap.size = q := h); omega)); clear ho4 hu4 hat4 hl4 hr4; apply As.out))
  refine ⟨?_⟩
  go_wp2_with (first | (go_at_call 11; refine (HKD.out w6 HU6.out).mono ?_; rintro r w7 ⟨v7, rfl, ho, hu⟩; have HO7 := As.mk ho; have HU7 := As.mk (HU6.out.trans hu (fun _ _ h => h)); have HS7 := As.mk (HS6.out.pure hu); clear hu ho; apply As.out) | (go_at_call 9; refine (HCJ.out w5 _ (HS3.out.pure HP35.out) _ _ _ HR5.out).mono ?_; rintro r w6 ⟨rfl, hu⟩; have HU6 := As.mk ((HU3.out.trans HP35.out (fun _ _ h => h)).trans hu (fun _ _ h => h)); have HS6 := As.mk ((HS3.out.pure HP35.out).pure hu); clear hu) | (at_builtin; refine Rp.append_row tokR (c := cb') HO4.out (Rp.row'_of (Rp.row_pure HRB.out (HU3.out.trans HP34.out (fun _ _ h => h))) (fun _ _ h => h)) (Fz := fun _ => False) (fun _ h => h.elim) rfl _ _ 22 (.agg #[.int .i64 0, .int .i64 0, .int .i64 0, .int .i64 0]) 32 rfl Tryd.underlying22 tok_info rfl (by decide) (by decide) rfl rfl (by omega) ?_; intro v5 w5 ho5 hu5 hat5; obtain ⟨A5, c5, rfl, hl5, hr5⟩ := Rp.own_slice ho5; have HR5 := As.mk hr5; have HP35 := As.mk (HP34.out.trans hu5 (fun q hq h => by have := HV4.out q h; omega)); clear ho5 hu5 hat5 hl5 hr5; try rw [List.length_append]))
  refine ⟨?_⟩
  obtain ⟨a7, c7, rfl⟩ := Rp.own_val HO7.out HN.out
  generalize kidsL a (-1) = ks at *
  obtain ⟨p0, hp0⟩ : ∃ p0, ks[0]? = some p0 := ⟨_, List.getElem?_eq_getElem (List.length_pos_iff.2 HN.out)⟩
  obtain ⟨kb, rfl, hkb, _⟩ := int_own_at HO7.out hp0
  have hkpos : 0 < ks.length := List.length_pos_iff.2 HN.out
  have HKP := As.mk hkpos
  have hkl : ks.length ≤ 1048576 := HKL.out
  clear hp0 HCA HCB HJ HCJ HKD HPB HN hkpos
  go_wp2
  go_loopg [13] ks.length (fun gg kv wr => ∃ k : Nat, k + gg = ks.length ∧ kv = .int .i64 k ∧ As (Pure w7 wr))
  case atStart => exact ⟨0, by omega, rfl, ⟨Upd.refl _ _⟩⟩
  case round =>
    obtain ⟨k, hk, rfl, HP⟩ := hrel
    by_cases hlt : k < ks.length
    · obtain ⟨p, hp⟩ : ∃ p, ks[k]? = some p := ⟨_, List.getElem?_eq_getElem hlt⟩
      obtain ⟨i, x, e, rfl, hx, hx2, hpo, hpl, hie, hel, hok⟩ := HK.out p (List.mem_of_getElem? hp)
      obtain ⟨kb', hkb', hkl', hcell⟩ := int_own_at HO7.out hp
      obtain rfl : kb = kb' := by simpa using hkb'
      obtain ⟨ba, oa, rfl, _, hba, _⟩ := tok_at HRA.out hx
      obtain ⟨g1, rfl⟩ : ∃ m, gk = m + 1 := ⟨gk - 1, by omega⟩
      have hseg := Rp.row_seg HRA.out i (e + 1 - i)
      have hsl : ((a.drop i).take (e + 1 - i)).length = e + 1 - i := by rw [List.length_take, List.length_drop]; omega
      have HPW := As.mk (HU7.out.trans HP.out (fun _ _ h => h))
      have HSEG := As.mk (fun (W : World) (hu : Pure w W) (hs : SchR W cb houseRules houseGroups) => house_check (c := ca - i) hs (Rp.row_pure hseg hu) (by omega))
      rw [hsl, hok] at HSEG
      obtain ⟨P, hmx, HPT⟩ : ∃ P : Int, max P (i : Int) = (e : Int) ∧ As (∀ W, Pure w W → Calls Tryd.prog 12 #[.slice (some ⟨ba, oa, none⟩) a.length ca, .int .i64 i] W fun r w' => r = .returned (.int .i64 P) ∧ Pure W w') := by
        by_cases hx1 : x.k = 1
        · refine ⟨partL a i, by rw [hpo hx1]; omega, ⟨fun W hu => Partner_open (Rp.row_pure HRA.out hu) (by omega) hca hx hx1⟩⟩
        · refine ⟨-1, by rw [hpl hx1]; omega, ⟨fun W hu => Partner_leaf (Rp.row_pure HRA.out hu) (by omega) hx hx1 hx2⟩⟩
      have HK1 := As.mk hk
      have HKC : As (∀ V, Pure w7 V → V.cell? ⟨kb, k, none⟩ = some (.int .i64 i)) := ⟨fun V hu => (hu.cell hkl' (fun h => h)).trans hcell⟩
      generalize (houseCheck ((a.drop i).take (e + 1 - i))).1 = rsg at *
      have hwe : IntKind.i64.wrap ((e : Int) + 1) = (e : Int) + 1 := IntWalk.i64_in _ (by omega)
      have hle1 : i ≤ e + 1 := by omega
      have hle2 : e + 1 ≤ ca := by omega
      have hwk : IntKind.i64.wrap ((k : Int) + 1) = (k : Int) + 1 := IntWalk.i64_in _ (by omega)
      clear hk hp hx hx2 hpo hpl hel hok hcell hseg hsl hkb' HK
      go_wp2
      refine wp_region_held_drew (S := (fun V => V.cell? ⟨kb, k, none⟩ = some (.int .i64 i))) (by kernel_rfl) ?_ (fun hHeld => ?_)
      · first | exact HKC.out _ HP8.out | exact HKC.out _ HP.out.drew
      refine wpAnyH_take (i := 0) (oi := { dst := (some 66), op := (Go.Op.move (Go.Operand.tmp 0)), type := 22, pos := "law.go:108", after := #[], guard := none }) (v := ?_) rfl (by kernel_rfl) (by kernel_rfl) (by kernel_rfl) (fun _ _ _ h => h) (Or.inl ⟨by rfl, (by intro w hSw; (try dsimp only at hSw); go_simp; try with_reducible rfl)⟩) (by assumption) ?_
      (try simp only [Act.put, List.setIfInBounds_toArray, List.set_cons_zero, List.set_cons_succ])
      refine wpAnyH_take (i := 1) (oi := { dst := (some 67), op := (Go.Op.move (Go.Operand.tmp 12)), type := 34, pos := "law.go:108", after := #[], guard := none }) (v := ?_) rfl (by kernel_rfl) (by kernel_rfl) (by kernel_rfl) (fun _ _ _ h => h) (Or.inl ⟨by rfl, (by intro w hSw; (try dsimp only at hSw); go_simp; try with_reducible rfl)⟩) (by assumption) ?_
      (try simp only [Act.put, List.setIfInBounds_toArray, List.set_cons_zero, List.set_cons_succ])
      refine wpAnyH_take (i := 2) (oi := { dst := (some 68), op := (Go.Op.move (Go.Operand.tmp 13)), type := 3, pos := "law.go:108", after := #[], guard := none }) (v := ?_) rfl (by kernel_rfl) (by kernel_rfl) (by kernel_rfl) (fun _ _ _ h => h) (Or.inl ⟨by rfl, (by intro w hSw; (try dsimp only at hSw); go_simp; try with_reducible rfl)⟩) (by assumption) ?_
      (try simp only [Act.put, List.setIfInBounds_toArray, List.set_cons_zero, List.set_cons_succ])
      refine wpAnyH_take (i := 3) (oi := { dst := (some 69), op := (Go.Op.indexAddr 34 (Go.Operand.tmp 67) (Go.Operand.tmp 68)), type := 0, pos := "law.go:108", after := #[{ on := 1, ground := Go.Ground.data }, { on := 2, ground := Go.Ground.data }], guard := none }) (v := ?_) rfl (by kernel_rfl) (by kernel_rfl) (by kernel_rfl) (fun _ _ _ h => h) (Or.inl ⟨by rfl, (by intro w hSw; (try dsimp only at hSw); go_simp; try with_reducible rfl)⟩) (by assumption) ?_
      (try simp only [Act.put, List.setIfInBounds_toArray, List.set_cons_zero, List.set_cons_succ])
      refine wpAnyH_take (i := 4) (oi := { dst := (some 70), op := (Go.Op.load 3 (Go.Operand.tmp 69)), type := 3, pos := "law.go:108", after := #[{ on := 3, ground := Go.Ground.data }], guard := none }) (v := ?_) rfl (by kernel_rfl) (by kernel_rfl) (by kernel_rfl) (fun _ _ _ h => h) (Or.inl ⟨by rfl, (by intro w hSw; (try dsimp only at hSw); go_simp; try with_reducible rfl)⟩) (by assumption) ?_
      (try simp only [Act.put, List.setIfInBounds_toArray, List.set_cons_zero, List.set_cons_succ])
      refine wpAnyH_take (i := 6) (oi := { dst := (some 72), op := (Go.Op.move (Go.Operand.tmp 12)), type := 34, pos := "law.go:108", after := #[], guard := none }) (v := ?_) rfl (by kernel_rfl) (by kernel_rfl) (by kernel_rfl) (fun _ _ _ h => h) (Or.inl ⟨by rfl, (by intro w hSw; (try dsimp only at hSw); go_simp; try with_reducible rfl)⟩) (by assumption) ?_
      (try simp only [Act.put, List.setIfInBounds_toArray, List.set_cons_zero, List.set_cons_succ])
      refine wpAnyH_take (i := 7) (oi := { dst := (some 73), op := (Go.Op.move (Go.Operand.tmp 13)), type := 3, pos := "law.go:108", after := #[], guard := none }) (v := ?_) rfl (by kernel_rfl) (by kernel_rfl) (by kernel_rfl) (fun _ _ _ h => h) (Or.inl ⟨by rfl, (by intro w hSw; (try dsimp only at hSw); go_simp; try with_reducible rfl)⟩) (by assumption) ?_
      (try simp only [Act.put, List.setIfInBounds_toArray, List.set_cons_zero, List.set_cons_succ])
      refine wpAnyH_take (i := 8) (oi := { dst := (some 74), op := (Go.Op.indexAddr 34 (Go.Operand.tmp 72) (Go.Operand.tmp 73)), type := 0, pos := "law.go:108", after := #[{ on := 6, ground := Go.Ground.data }, { on := 7, ground := Go.Ground.data }], guard := none }) (v := ?_) rfl (by kernel_rfl) (by kernel_rfl) (by kernel_rfl) (fun _ _ _ h => h) (Or.inl ⟨by rfl, (by intro w hSw; (try dsimp only at hSw); go_simp; try with_reducible rfl)⟩) (by assumption) ?_
      (try simp only [Act.put, List.setIfInBounds_toArray, List.set_cons_zero, List.set_cons_succ])
      refine wpAnyH_take (i := 9) (oi := { dst := (some 75), op := (Go.Op.load 3 (Go.Operand.tmp 74)), type := 3, pos := "law.go:108", after := #[{ on := 8, ground := Go.Ground.data }], guard := none }) (v := ?_) rfl (by kernel_rfl) (by kernel_rfl) (by kernel_rfl) (fun _ _ _ h => h) (Or.inl ⟨by rfl, (by intro w hSw; (try dsimp only at hSw); go_simp; try with_reducible rfl)⟩) (by assumption) ?_
      (try simp only [Act.put, List.setIfInBounds_toArray, List.set_cons_zero, List.set_cons_succ])
      refine wpAnyH_ready (rs := [5]) (by kernel_rfl) (by simp) (AllReadyH.cons (o := { dst := (some 71), op := (Go.Op.call { callee := (Go.Callee.value (Go.Operand.func 12)), args := #[(Go.Operand.tmp 66), (Go.Operand.tmp 70)], argTypes := #[22, 3] }), type := 3, pos := "law.go:108", after := #[{ on := 0, ground := Go.Ground.data }, { on := 4, ground := Go.Ground.data }], guard := none }) rfl (fun K hK => ?_) AllReadyH.nil)
      go_simp
      (go_at_call 12; refine (HPT.out _ HPW.out.drew).mono ?_; rintro r w8 ⟨rfl, hu⟩; have HP8 := As.mk (HP.out.drew.trans hu (fun _ _ h => h)); clear hu)
      refine hK.out _ _ (by first | exact HKC.out _ HP8.out | exact HKC.out _ HP.out.drew) (fun hHeld => ?_)
      clear hK K
      (try simp only [Act.put, List.setIfInBounds_toArray, List.set_cons_zero, List.set_cons_succ])
      refine wpAnyH_take (i := 10) (oi := { dst := (some 76), op := (Go.Op.call { callee := (Go.Callee.builtin Go.Builtin.max), args := #[(Go.Operand.tmp 71), (Go.Operand.tmp 75)], argTypes := #[3, 3] }), type := 3, pos := "law.go:108", after := #[{ on := 5, ground := Go.Ground.data }, { on := 9, ground := Go.Ground.data }], guard := none }) (v := ?_) rfl (by kernel_rfl) (by kernel_rfl) (by kernel_rfl) (fun _ _ _ h => h) (Or.inl ⟨by rfl, (by intro w hSw; (try dsimp only at hSw); go_simp; try with_reducible rfl)⟩) (by assumption) ?_
      (try simp only [Act.put, List.setIfInBounds_toArray, List.set_cons_zero, List.set_cons_succ])
      refine wpAnyH_take (i := 11) (oi := { dst := (some 14), op := (Go.Op.assign (Go.Operand.tmp 76)), type := 3, pos := "law.go:108", after := #[{ on := 10, ground := Go.Ground.data }, { on := 5, ground := Go.Ground.chain }, { on := 0, ground := Go.Ground.phase }, { on := 1, ground := Go.Ground.phase }, { on := 2, ground := Go.Ground.phase }, { on := 3, ground := Go.Ground.phase }, { on := 4, ground := Go.Ground.phase }, { on := 5, ground := Go.Ground.phase }, { on := 6, ground := Go.Ground.phase }, { on := 7, ground := Go.Ground.phase }, { on := 8, ground := Go.Ground.phase }, { on := 9, ground := Go.Ground.phase }, { on := 10, ground := Go.Ground.phase }], guard := none }) (v := ?_) rfl (by kernel_rfl) (by kernel_rfl) (by kernel_rfl) (fun _ _ _ h => h) (Or.inl ⟨by rfl, (by intro w hSw; (try dsimp only at hSw); go_simp; try with_reducible rfl)⟩) (by assumption) ?_
      (try simp only [Act.put, List.setIfInBounds_toArray, List.set_cons_zero, List.set_cons_succ])
      refine wpAnyH_done (by kernel_rfl) ?_ _
      have q8 := HKC.out _ HP8.out
      go_wp2_with (go_at_call 9; refine (HSEG.out _ (HU7.out.trans HP8.out (fun _ _ h => h)) (HS7.out.pure HP8.out)).mono ?_; rintro r wa ⟨rfl, hu⟩; have HPA := As.mk (HP8.out.trans hu (fun _ _ h => h)); clear hu)
      go_roundg g1
      case measure => omega
      case rel => exact ⟨k + 1, by have := HK1.out; omega, by go_num, HPA⟩
    · have HPW := As.mk (HU7.out.trans HP.out (fun _ _ h => h))
      obtain rfl : k = ks.length := by omega
      have v1 : decide ((ks.length : Int) > 0) = true := by have := HKP.out; simp; omega
      have v2 : decide ((0 : Int) < (ks.length : Int)) = true := by have := HKP.out; simp; omega
      have v3 : decide (0 < ks.length) = true := by have := HKP.out; simp; omega
      clear hk HK
      go_wp2_with (go_at_call 10; refine (awake7_calls _).mono ?_; rintro r w9 ⟨rfl, hu9⟩; have HU9 := As.mk (HPW.out.trans hu9 (fun _ _ h => h)); clear hu9)
      go_ret
      exact ⟨rfl, HU9.out⟩
theorem SchemaJoins_walk {w : World} {F G : Nat → Prop} {A B : Option Addr} {ca cb' : Nat} {a b : List Tok} (ha : tokR.row w F A a) (hb : tokR.row w G B b) (hal : a.length ≤ 1048576) (hbl : b.length ≤ 1048576) (hca : a.length ≤ ca) :
    Calls Tryd.prog 4 #[.slice A a.length ca, .slice B b.length cb'] w fun r w' => r = .returned (.bool true) ∧ Pure w w' := by
  by_cases h1 : a.length ≤ 300
  · by_cases h2 : b.length ≤ 300
    · by_cases h3 : (houseCheck a).2 = 0
      · by_cases h4 : (houseCheck b).2 = 0
        · exact Joins_main ha hb hal hbl hca h1 h2 h3 h4
        · exact Joins_badB ha hb hal hbl hca h1 h2 h3 h4
      · exact Joins_badA ha hb hal hbl hca h1 h2 h3
    · exact Joins_longB ha hb hal hbl hca h1 (by omega)
  · exact Joins_longA ha hb hal hbl hca (by omega)
end Go.Proofs.YtgidokgidlecmaaDoor
