/- edit.Wrap of tokens that open. (printed by gen/gen_edw.py) -/
import Derived.Test.YteeindicpbcjaaaGreatDoorEdLc
import Derived.Test.YteeindicpbcjaaaGreatDoorApp
namespace Go.Proofs.YteeindicpbcjaaaGreatDoor
open Go.RowKit
set_option linter.unusedVariables false
set_option linter.unusedSimpArgs false

/-- What is put around: the tokens that open, as many that close. -/
def wrapSl (us : List Tok) : List Tok := us ++ List.replicate us.length shutT
set_option maxRecDepth 100000 in
set_option maxHeartbeats 4000000 in
theorem Wrap_at {w : World} {F : Nat → Prop} {cb : Nat} {A T : Option Addr} {c ct n : Nat} {f t e pe : Int} {us : List Tok} {s' : StepD} (hx : tokR.row w F T us) (hub : us.length ≤ 1048576) (hus : ∀ x ∈ us, x.k = 1) (hun : us ≠ [])
    (hp : ∀ W, Pure w W → Calls Tryz.prog 38 #[deskV cb A n c, .int .i64 f, .int .i64 t] W (fun r w' => r = .returned (.int .i64 pe) ∧ Pure W w'))
    (hr : pe = 0 → f ≠ t → ∀ V A1 c1, Pure w V → tokR.row V (fun _ => True) A1 (wrapSl us) → (wrapSl us).length ≤ c1 → Calls Tryz.prog 48 #[deskV cb A n c, (arnd f t f t us.length (wrapSl us)).val A1 c1] V (Told s' (toldB A1 e) (toldC c1 e) e V))
    (h0 : pe ≠ 0 → s' = repl 0 0 [] ∧ e = pe) (h1 : pe = 0 → f = t → s' = repl 0 0 [] ∧ e = 6) (h2 : e = 0 → f ≠ t → s'.sl = wrapSl us) (h3 : e ≠ 0 → s'.sl = []) :
    Calls Tryz.prog 24 #[.pointer (some ⟨cb, 0, none⟩), .slice A n c, .int .i64 f, .int .i64 t, .slice T us.length ct] w (fun r w' => ∃ B' c', Told s' B' c' e w r w' ∧ (tokR.row w' (fun k => w.heap.size ≤ k) B' s'.sl ∧ s'.sl.length ≤ c') ∧ (e ≠ 0 → B' = none ∧ c' = 0)) := by
  have HP0 := As.mk hp
  have HX := As.mk hx
  have HUS := As.mk hus
  have hul : ((us.length : Int) == 0) = false := by
    have := List.length_pos_iff.2 hun
    simp only [beq_eq_false_iff_ne, ne_eq]
    omega
  clear hp hx hus hun
  by_cases p0 : pe = 0
  · by_cases ft : f = t
    · obtain ⟨rfl, rfl⟩ := h1 p0 ft
      subst p0 ft
      clear hr h0 h1 h2 h3
      have HP := HP0
      clear HP0
      unfold Told StepD.val at *
      go_enter Tryz.func24, Tryz.ntmps24
      go_wp2_with (first | (at_builtin; refine Rp.append_row tokR (c := ct) (Rp.own_nil tokR 40 w1 (fun q => w1.heap.size ≤ q)) (Rp.row'_of (Rp.row_pure HX.out HU1.out) (fun _ _ h => h)) (Fz := fun _ => False) (fun _ h => h.elim) rfl _ _ 22 _ 32 rfl Tryz.underlying22 tok_info rfl (by decide) (by decide) rfl rfl (by simp only [List.length_nil]; omega) ?_; intro v1 w2 ho1 hu1 hat; simp only [List.nil_append] at ho1; have HO1 := As.mk (Rp.own_fp (G := fun q => w1.heap.size ≤ q) ho1 (fun q hq => by rcases hq with hq | hq | hq; exact hq.1; exact hq.elim; rcases hat with hat | ⟨b, hb, hle⟩; (rw [hat] at hq; simp [Value.ownBlock] at hq); (rw [hb] at hq; injection hq with hq; omega))); have HP1 := As.mk (Upd.trans (Upd.refl (fun _ => False) w1) hu1 (fun k _ h => by simp [Value.ownBlock] at h)); clear ho1 hu1 hat) | (go_at_call 38; refine (HP.out _ ((Upd.alloc1 (fun _ => False) _ _).alloc _)).mono ?_; rintro r w1 ⟨rfl, hu⟩; obtain ⟨hb1, hb2, hu2⟩ := two_up hu; obtain ⟨q0, q1⟩ := cells2 hb2; have HB1 := As.mk hb1; have HQ1 := As.mk hb2; have HU1 := As.mk hu2; clear hu hb1 hb2 hu2))
      go_loopg [14, 34] us.length (fun g v i wr => ∃ k : Nat, k + g = us.length ∧ i = .int .i64 k ∧ As (tokR.own 40 wr (fun q => w1.heap.size ≤ q) v (us ++ List.replicate k shutT)) ∧ As (Pure w1 wr))
      case atStart => exact ⟨0, by omega, rfl, ⟨by simpa using HO1.out⟩, ⟨HP1.out⟩⟩
      case round =>
        obtain ⟨k, hk, rfl, HO, HP⟩ := hrel
        by_cases hlt : k < us.length
        · obtain ⟨g1, rfl⟩ : ∃ m, gk = m + 1 := ⟨gk - 1, by omega⟩
          obtain ⟨x, hx⟩ : ∃ x, us[k]? = some x := ⟨_, List.getElem?_eq_getElem hlt⟩
          obtain ⟨b, o, rfl, hF, hbl, c0, c1, c2, c3⟩ := tok_at (Rp.row_pure HX.out (HU1.out.trans HP.out (fun _ _ h => h))) hx
          rw [HUS.out x (List.mem_of_getElem? hx)] at c0
          have HKK := As.mk hk
          clear hx hk
          go_wp2_with (first | (at_builtin; refine Rp.own_append tokR HO2.out shutT shutT.cs rfl (Fp := fun _ => False) (G := fun q => w1.heap.size ≤ q) (fun _ h => h.elim) (fun _ h _ => h) (fun q hq => by have := HP2.out.size; omega) rfl _ _ 22 _ 32 rfl Tryz.underlying22 tok_info rfl (by decide) (by decide) rfl (by simp [Act.eval]) (by simp only [List.length_append, List.length_replicate]; omega) ?_; intro v1 w4 ho1 hu1; have HO4 := As.mk ho1; have HP4 := As.mk (Upd.trans HP2.out hu1 (fun q hq h => by have := Rp.own_block_lt HO2.out q h; omega)); clear ho1 hu1) | (go_at_call 51; refine (shut_calls _).mono ?_; rintro r w3 ⟨rfl, hu⟩; have HP2 := As.mk ((HP.out.alloc _).trans hu (fun _ _ h => h)); have HO2 := As.mk (Rp.own_upd (Rp.own_alloc HO.out _) hu (fun _ _ _ h => h)); clear hu))
          go_roundg g1
          case measure => omega
          case rel => exact ⟨k + 1, by have := HKK.out; omega, by go_num, ⟨by rw [List.replicate_succ', ← List.append_assoc]; exact HO4.out⟩, ⟨HP4.out⟩⟩
        · obtain rfl : k = us.length := by omega
          have HUR := As.mk (HU1.out.trans HP.out (fun _ _ h => h))
          have HBR := As.mk ((HP.out.block w.heap.size (lt_of_block HB1.out) (fun h => h)).trans HB1.out)
          obtain ⟨z0, z1⟩ := cells2 ((HP.out.block (w.heap.size + 1) (lt_of_block HQ1.out) (fun h => h)).trans HQ1.out)
          obtain ⟨A1, c1, rfl, hc1, hrow⟩ := Rp.own_slice HO.out
          have HSG := As.mk (Rp.row_fp (G := fun k => w.heap.size < k) hrow (fun k hk => by have h8 := lt_of_block HQ1.out; omega))
          have HSL := As.mk (And.intro (Rp.row_fp (G := fun _ => True) hrow (fun _ _ => trivial)) hc1)
          have hlen : ((us ++ List.replicate us.length shutT).length) = (wrapSl us).length := rfl
          rw [hlen]
          clear hrow hc1 HO hlen hk
          go_wp2_with (go_at_call 39; refine (refuse_calls _).mono ?_; rintro r w2 ⟨rfl, hu⟩; have HB2 := As.mk ((hu.block w.heap.size (lt_of_block HBR.out) (fun h => h)).trans HBR.out); have HU2 := As.mk (HUR.out.trans hu (fun _ _ h => h)); clear hu; apply As.out)
          refine ⟨?_⟩
          have hbl : w.heap.size < w2.heap.size := (Array.getElem?_eq_some_iff.1 HB2.out).1
          have hcf : ∀ i, w2.frozen? ⟨w.heap.size, i, none⟩ = false := fun i => by simp [World.frozen?, HB2.out]
          obtain ⟨k0, k1, k2, k3, k4, k5, k6, k7⟩ := cells8 HB2.out
          go_wp2
          exact bodyPost_ret (step_end (rb := w.heap.size) rfl _ rfl (set8 (rb := w.heap.size) HB2.out _ _ _ _ _ _ _ _)) rfl ⟨none, 0, ⟨rfl, set8_pure HU2.out (Nat.le_refl _) _ _ _ _ _ _ _ _⟩, ⟨.inl rfl, Nat.zero_le _⟩, fun _ => ⟨rfl, rfl⟩⟩
    · have HR := As.mk (hr p0 ft)
      have HT := As.mk (And.intro (fun h => h2 h ft) h3)
      have hft : (f == t) = false := by simpa using ft
      subst p0
      clear hr h0 h1 h2 h3 ft
      have HP := HP0
      clear HP0
      unfold Told StepD.val arnd at *
      go_enter Tryz.func24, Tryz.ntmps24
      go_wp2_with (first | (at_builtin; refine Rp.append_row tokR (c := ct) (Rp.own_nil tokR 40 w1 (fun q => w1.heap.size ≤ q)) (Rp.row'_of (Rp.row_pure HX.out HU1.out) (fun _ _ h => h)) (Fz := fun _ => False) (fun _ h => h.elim) rfl _ _ 22 _ 32 rfl Tryz.underlying22 tok_info rfl (by decide) (by decide) rfl rfl (by simp only [List.length_nil]; omega) ?_; intro v1 w2 ho1 hu1 hat; simp only [List.nil_append] at ho1; have HO1 := As.mk (Rp.own_fp (G := fun q => w1.heap.size ≤ q) ho1 (fun q hq => by rcases hq with hq | hq | hq; exact hq.1; exact hq.elim; rcases hat with hat | ⟨b, hb, hle⟩; (rw [hat] at hq; simp [Value.ownBlock] at hq); (rw [hb] at hq; injection hq with hq; omega))); have HP1 := As.mk (Upd.trans (Upd.refl (fun _ => False) w1) hu1 (fun k _ h => by simp [Value.ownBlock] at h)); clear ho1 hu1 hat) | (go_at_call 38; refine (HP.out _ ((Upd.alloc1 (fun _ => False) _ _).alloc _)).mono ?_; rintro r w1 ⟨rfl, hu⟩; obtain ⟨hb1, hb2, hu2⟩ := two_up hu; obtain ⟨q0, q1⟩ := cells2 hb2; have HB1 := As.mk hb1; have HQ1 := As.mk hb2; have HU1 := As.mk hu2; clear hu hb1 hb2 hu2))
      go_loopg [14, 34] us.length (fun g v i wr => ∃ k : Nat, k + g = us.length ∧ i = .int .i64 k ∧ As (tokR.own 40 wr (fun q => w1.heap.size ≤ q) v (us ++ List.replicate k shutT)) ∧ As (Pure w1 wr))
      case atStart => exact ⟨0, by omega, rfl, ⟨by simpa using HO1.out⟩, ⟨HP1.out⟩⟩
      case round =>
        obtain ⟨k, hk, rfl, HO, HP⟩ := hrel
        by_cases hlt : k < us.length
        · obtain ⟨g1, rfl⟩ : ∃ m, gk = m + 1 := ⟨gk - 1, by omega⟩
          obtain ⟨x, hx⟩ : ∃ x, us[k]? = some x := ⟨_, List.getElem?_eq_getElem hlt⟩
          obtain ⟨b, o, rfl, hF, hbl, c0, c1, c2, c3⟩ := tok_at (Rp.row_pure HX.out (HU1.out.trans HP.out (fun _ _ h => h))) hx
          rw [HUS.out x (List.mem_of_getElem? hx)] at c0
          have HKK := As.mk hk
          clear hx hk
          go_wp2_with (first | (at_builtin; refine Rp.own_append tokR HO2.out shutT shutT.cs rfl (Fp := fun _ => False) (G := fun q => w1.heap.size ≤ q) (fun _ h => h.elim) (fun _ h _ => h) (fun q hq => by have := HP2.out.size; omega) rfl _ _ 22 _ 32 rfl Tryz.underlying22 tok_info rfl (by decide) (by decide) rfl (by simp [Act.eval]) (by simp only [List.length_append, List.length_replicate]; omega) ?_; intro v1 w4 ho1 hu1; have HO4 := As.mk ho1; have HP4 := As.mk (Upd.trans HP2.out hu1 (fun q hq h => by have := Rp.own_block_lt HO2.out q h; omega)); clear ho1 hu1) | (go_at_call 51; refine (shut_calls _).mono ?_; rintro r w3 ⟨rfl, hu⟩; have HP2 := As.mk ((HP.out.alloc _).trans hu (fun _ _ h => h)); have HO2 := As.mk (Rp.own_upd (Rp.own_alloc HO.out _) hu (fun _ _ _ h => h)); clear hu))
          go_roundg g1
          case measure => omega
          case rel => exact ⟨k + 1, by have := HKK.out; omega, by go_num, ⟨by rw [List.replicate_succ', ← List.append_assoc]; exact HO4.out⟩, ⟨HP4.out⟩⟩
        · obtain rfl : k = us.length := by omega
          have HUR := As.mk (HU1.out.trans HP.out (fun _ _ h => h))
          have HBR := As.mk ((HP.out.block w.heap.size (lt_of_block HB1.out) (fun h => h)).trans HB1.out)
          obtain ⟨z0, z1⟩ := cells2 ((HP.out.block (w.heap.size + 1) (lt_of_block HQ1.out) (fun h => h)).trans HQ1.out)
          obtain ⟨A1, c1, rfl, hc1, hrow⟩ := Rp.own_slice HO.out
          have HSG := As.mk (Rp.row_fp (G := fun k => w.heap.size < k) hrow (fun k hk => by have h8 := lt_of_block HQ1.out; omega))
          have HSL := As.mk (And.intro (Rp.row_fp (G := fun _ => True) hrow (fun _ _ => trivial)) hc1)
          have hlen : ((us ++ List.replicate us.length shutT).length) = (wrapSl us).length := rfl
          rw [hlen]
          clear hrow hc1 HO hlen hk
          go_wp2_with (go_at_call 48; refine (HR.out wr _ _ HUR.out HSL.out.1 HSL.out.2).mono ?_; rintro r w2 ⟨rfl, hu⟩; have HB2 := As.mk ((hu.block w.heap.size (lt_of_block HBR.out) (fun h => h)).trans HBR.out); have HU2 := As.mk (HUR.out.trans hu (fun _ _ h => h)); have HR2 := As.mk (Rp.row_pure HSG.out hu); clear hu; apply As.out)
          refine ⟨?_⟩
          have hbl : w.heap.size < w2.heap.size := (Array.getElem?_eq_some_iff.1 HB2.out).1
          have hcf : ∀ i, w2.frozen? ⟨w.heap.size, i, none⟩ = false := fun i => by simp [World.frozen?, HB2.out]
          obtain ⟨k0, k1, k2, k3, k4, k5, k6, k7⟩ := cells8 HB2.out
          go_wp2
          exact bodyPost_ret (step_end (rb := w.heap.size) rfl _ rfl (set8 (rb := w.heap.size) HB2.out _ _ _ _ _ _ _ _)) rfl ⟨_, _, ⟨rfl, set8_pure HU2.out (Nat.le_refl _) _ _ _ _ _ _ _ _⟩, told_row (e := e) HT.out.1 HT.out.2 (Rp.row_fp (G := fun k => w.heap.size ≤ k) (Rp.row_upd HR2.out (set8_upd (Upd.refl _ _) _ _ _ _ _ _ _ _) (fun k _ h e => by omega)) (fun _ h => by (try have h8 := HL.out); omega)) HSL.out.2, fun h => ⟨if_neg h, if_neg h⟩⟩
  · obtain ⟨rfl, rfl⟩ := h0 p0
    have f0 : (e != 0) = true := by simpa using p0
    clear hr h0 h1 h2 h3 p0
    have HP := HP0
    clear HP0
    unfold Told StepD.val at *
    go_enter Tryz.func24, Tryz.ntmps24
    go_wp2_with (first | (go_at_call 39; refine (refuse_calls _).mono ?_; rintro r w2 ⟨rfl, hu⟩; have HB2 := As.mk ((hu.block w.heap.size (lt_of_block HB1.out) (fun h => h)).trans HB1.out); have HU2 := As.mk (HU1.out.trans hu (fun _ _ h => h)); clear hu; apply As.out) | (go_at_call 38; refine (HP.out _ ((Upd.alloc1 (fun _ => False) _ _).alloc _)).mono ?_; rintro r w1 ⟨rfl, hu⟩; obtain ⟨hb1, hb2, hu2⟩ := two_up hu; obtain ⟨q0, q1⟩ := cells2 hb2; have HB1 := As.mk hb1; have HQ1 := As.mk hb2; have HU1 := As.mk hu2; clear hu hb1 hb2 hu2))
    refine ⟨?_⟩
    have hbl : w.heap.size < w2.heap.size := (Array.getElem?_eq_some_iff.1 HB2.out).1
    have hcf : ∀ i, w2.frozen? ⟨w.heap.size, i, none⟩ = false := fun i => by simp [World.frozen?, HB2.out]
    obtain ⟨k0, k1, k2, k3, k4, k5, k6, k7⟩ := cells8 HB2.out
    go_wp2
    exact bodyPost_ret (step_end (rb := w.heap.size) rfl _ rfl (set8 (rb := w.heap.size) HB2.out _ _ _ _ _ _ _ _)) rfl ⟨none, 0, ⟨rfl, set8_pure HU2.out (Nat.le_refl _) _ _ _ _ _ _ _ _⟩, ⟨.inl rfl, Nat.zero_le _⟩, fun _ => ⟨rfl, rfl⟩⟩
def wrapErr (l : List Tok) (f t : Int) (us : List Tok) : Int := if placesErr l f t ≠ 0 then placesErr l f t else if f = t then 6 else remapErr l (arnd f t f t us.length (wrapSl us))
theorem wrap_zero {l : List Tok} {f t : Int} {us : List Tok} : wrapErr l f t us = 0 ↔ (houseCheck l).2 = 0 ∧ 0 ≤ f ∧ f < t ∧ t ≤ l.length ∧ remapErr l (arnd f t f t us.length (wrapSl us)) = 0 := by
  unfold wrapErr
  by_cases h0 : placesErr l f t = 0
  · rw [if_neg (by omega)]
    obtain ⟨h1, h2, h3, h4⟩ := places_zero.1 h0
    by_cases h5 : f = t
    · rw [if_pos h5]
      exact ⟨fun h => absurd h (by decide), fun h => by omega⟩
    · rw [if_neg h5]
      exact ⟨fun h => ⟨h1, h2, by omega, h4, h⟩, fun h => h.2.2.2.2⟩
  · rw [if_pos h0]
    exact ⟨fun h => absurd h h0, fun h => absurd (places_zero.2 ⟨h.1, h.2.1, by omega, h.2.2.2.1⟩) h0⟩
theorem wrapSl_len (us : List Tok) : (wrapSl us).length = 2 * us.length := by unfold wrapSl; rw [List.length_append, List.length_replicate]; omega
theorem Wrap_new {w : World} {F G : Nat → Prop} {cb : Nat} {A T : Option Addr} {c ct : Nat} {l us : List Tok} {f t : Int} (h : SchR w cb houseRules houseGroups) (hr : tokR.row w F A l) (hlc : l.length ≤ c) (hb : l.length ≤ 1048576 * 4) (hx : tokR.row w G T us) (hub : us.length ≤ 1048576) (hus : ∀ x ∈ us, x.k = 1) (hun : us ≠ []) :
    Calls Tryz.prog 24 #[.pointer (some ⟨cb, 0, none⟩), .slice A l.length c, .int .i64 f, .int .i64 t, .slice T us.length ct] w (fun r w' => ∃ B' c', Told (toldS (arnd f t f t us.length (wrapSl us)) (wrapErr l f t us)) B' c' (wrapErr l f t us) w r w' ∧ (tokR.row w' (fun k => w.heap.size ≤ k) B' (toldS (arnd f t f t us.length (wrapSl us)) (wrapErr l f t us)).sl ∧ (toldS (arnd f t f t us.length (wrapSl us)) (wrapErr l f t us)).sl.length ≤ c') ∧ (wrapErr l f t us ≠ 0 → B' = none ∧ c' = 0)) := by
  have hwl := wrapSl_len us
  have hpos := List.length_pos_iff.2 hun
  refine Wrap_at (pe := placesErr l f t) hx hub hus hun (fun W hW => places_calls (h.pure hW) (Rp.row_pure hr hW) hb) (fun p0 ft V A1 c1 hV hrow hc1 => ?_) (fun hp => ?_) (fun p0 ft => ?_) (fun he ft => by rw [he]; rfl) (fun he => by rw [toldS_refused he]; rfl)
  · have he : wrapErr l f t us = remapErr l (arnd f t f t us.length (wrapSl us)) := by unfold wrapErr; rw [if_neg (by omega), if_neg ft]
    rw [he]
    exact tell_doc (s := arnd f t f t us.length (wrapSl us)) (h.pure hV) (Rp.row_pure hr hV) hb hrow (by show (wrapSl us).length ≤ _; omega) (fun q0 q1 q2 => doc_arnd (house_ne (places_zero.1 p0).1) (Rp.row_pure hr hV) hlc hrow hc1 (fun hz => by rw [hz] at hwl; simp at hwl; omega) q0 q1 q2)
  · have he : wrapErr l f t us = placesErr l f t := by unfold wrapErr; rw [if_pos hp]
    rw [he]
    exact ⟨toldS_refused hp, rfl⟩
  · have he : wrapErr l f t us = 6 := by unfold wrapErr; rw [if_neg (by omega), if_pos ft]
    rw [he]
    exact ⟨toldS_refused (by decide), rfl⟩
theorem Wrap_calls {w : World} {F G : Nat → Prop} {cb : Nat} {A T : Option Addr} {c ct : Nat} {l us : List Tok} {f t : Int} (h : SchR w cb houseRules houseGroups) (hr : tokR.row w F A l) (hlc : l.length ≤ c) (hb : l.length ≤ 1048576 * 4) (hx : tokR.row w G T us) (hub : us.length ≤ 1048576) (hus : ∀ x ∈ us, x.k = 1) (hun : us ≠ []) :
    Calls Tryz.prog 24 #[.pointer (some ⟨cb, 0, none⟩), .slice A l.length c, .int .i64 f, .int .i64 t, .slice T us.length ct] w (fun r w' => ∃ B' c', Told (toldS (arnd f t f t us.length (wrapSl us)) (wrapErr l f t us)) B' c' (wrapErr l f t us) w r w' ∧ (tokR.row w' (fun _ => True) B' (toldS (arnd f t f t us.length (wrapSl us)) (wrapErr l f t us)).sl ∧ (toldS (arnd f t f t us.length (wrapSl us)) (wrapErr l f t us)).sl.length ≤ c') ∧ (wrapErr l f t us ≠ 0 → B' = none ∧ c' = 0)) :=
  (Wrap_new h hr hlc hb hx hub hus hun).mono fun r w' ⟨B', c', h1, ⟨h2, h3⟩, h4⟩ => ⟨B', c', h1, ⟨Rp.row_fp h2 (fun _ _ => trivial), h3⟩, h4⟩
end Go.Proofs.YteeindicpbcjaaaGreatDoor
