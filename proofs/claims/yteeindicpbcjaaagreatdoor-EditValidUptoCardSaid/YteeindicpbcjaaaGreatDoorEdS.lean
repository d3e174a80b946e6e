/- edit.Split. (printed by gen/gen_eds.py) -/
import Derived.Test.YteeindicpbcjaaaGreatDoorEdAw
import Derived.Test.YteeindicpbcjaaaGreatDoorHeldZ
namespace Go.Proofs.YteeindicpbcjaaaGreatDoor
open Go.RowKit
set_option linter.unusedVariables false
set_option linter.unusedSimpArgs false

set_option maxRecDepth 100000 in
set_option maxHeartbeats 4000000 in
theorem Split_at {w : World} {F : Nat → Prop} {cb : Nat} {A : Option Addr} {c : Nat} {l : List Tok} {p e pe ar : Int} {s' : StepD} (hrow : tokR.row w F A l) (hlc : l.length ≤ c) (hb : l.length ≤ 1048576 * 4)
    (hp : ∀ W, Pure w W → Calls Tryz.prog 38 #[deskV cb A l.length c, .int .i64 p, .int .i64 p] W (fun r w' => r = .returned (.int .i64 pe) ∧ Pure W w'))
    (ha : ∀ W, Pure w W → Calls Tryz.prog 20 #[.slice A l.length c, .int .i64 p] W (fun r w' => r = .returned (.int .i64 ar) ∧ Pure W w'))
    (hr : ∀ (i : Nat) (y : Tok), pe = 0 → ar = (i : Int) → l[i]? = some y → ∀ V A1 c1, Pure w V → tokR.row V (fun _ => True) A1 [shutT, y] → 2 ≤ c1 → Calls Tryz.prog 40 #[deskV cb A l.length c, .int .i64 p, .int .i64 p, .slice A1 2 c1] V (Told s' (toldB A1 e) (toldC c1 e) e V))
    (hi : pe = 0 → 0 ≤ ar → ∃ (i : Nat) (y : Tok), ar = (i : Int) ∧ l[i]? = some y ∧ (e = 0 → s'.sl = [shutT, y]))
    (h0 : pe ≠ 0 → s' = repl 0 0 [] ∧ e = pe) (h1 : pe = 0 → ar < 0 → s' = repl 0 0 [] ∧ e = 6) (h3 : e ≠ 0 → s'.sl = []) :
    Calls Tryz.prog 26 #[.pointer (some ⟨cb, 0, none⟩), .slice A l.length c, .int .i64 p] w (fun r w' => ∃ B' c', Told s' B' c' e w r w' ∧ (tokR.row w' (fun k => w.heap.size ≤ k) B' s'.sl ∧ s'.sl.length ≤ c') ∧ (e ≠ 0 → B' = none ∧ c' = 0)) := by
  have HP := As.mk hp
  have HAR := As.mk ha
  clear hp ha
  by_cases p0 : pe = 0
  · by_cases a0 : ar < 0
    · obtain ⟨rfl, rfl⟩ := h1 p0 a0
      subst p0
      clear hr hi h0 h1 h3 hrow
      unfold Told StepD.val at *
      go_enter Tryz.func26, Tryz.ntmps26
      go_wp2_with (first | (go_at_call 39; refine (refuse_calls _).mono ?_; rintro r w2 ⟨rfl, hu⟩; have HB2 := As.mk ((hu.block w.heap.size (lt_of_block HBA.out) (fun h => h)).trans HBA.out); have HU2 := As.mk (HUA.out.trans hu (fun _ _ h => h)); clear hu; apply As.out) | (go_at_call 20; refine (HAR.out w1 HU1.out).mono ?_; rintro r wa ⟨rfl, hu⟩; have HBA := As.mk ((hu.block w.heap.size (lt_of_block HB1.out) (fun h => h)).trans HB1.out); have HUA := As.mk (HU1.out.trans hu (fun _ _ h => h)); have HPA := As.mk hu; have qa := cells2 ((hu.block (w.heap.size + 1) (lt_of_block HQ1.out) (fun h => h)).trans HQ1.out); clear hu) | (go_at_call 38; refine (HP.out _ ((Upd.alloc1 (fun _ => False) _ _).alloc _)).mono ?_; rintro r w1 ⟨rfl, hu⟩; obtain ⟨hb1, hb2, hu2⟩ := two_up hu; obtain ⟨q0, q1⟩ := cells2 hb2; have HB1 := As.mk hb1; have HQ1 := As.mk hb2; have HU1 := As.mk hu2; clear hu hb1 hb2 hu2))
      refine ⟨?_⟩
      have hbl : w.heap.size < w2.heap.size := (Array.getElem?_eq_some_iff.1 HB2.out).1
      have hcf : ∀ i, w2.frozen? ⟨w.heap.size, i, none⟩ = false := fun i => by simp [World.frozen?, HB2.out]
      obtain ⟨k0, k1, k2, k3, k4, k5, k6, k7⟩ := cells8 HB2.out
      go_wp2
      exact bodyPost_ret (step_end (rb := w.heap.size) rfl _ rfl (set8 (rb := w.heap.size) HB2.out _ _ _ _ _ _ _ _)) rfl ⟨none, 0, ⟨rfl, set8_pure HU2.out (Nat.le_refl _) _ _ _ _ _ _ _ _⟩, ⟨.inl rfl, Nat.zero_le _⟩, fun _ => ⟨rfl, rfl⟩⟩
    · obtain ⟨i, y, rfl, hy, hsl⟩ := hi p0 (by omega)
      have HR := As.mk (hr i y p0 rfl hy)
      have HT := As.mk (And.intro hsl h3)
      obtain ⟨b, o, rfl, hF, hbl0, c0, c1, c2, c3⟩ := tok_at hrow hy
      have il : i < l.length := (List.getElem?_eq_some_iff.1 hy).1
      have HBL := As.mk hbl0
      have HCS := As.mk (And.intro c0 (And.intro c1 (And.intro c2 c3)))
      subst p0
      clear hr hi h0 h1 h3 hrow hsl hy hF hbl0 c0 c1 c2 c3
      unfold Told StepD.val at *
      go_enter Tryz.func26, Tryz.ntmps26
      go_wp2_with (first | (go_at_call 20; refine (HAR.out w1 HU1.out).mono ?_; rintro r wa ⟨rfl, hu⟩; have HBA := As.mk ((hu.block w.heap.size (lt_of_block HB1.out) (fun h => h)).trans HB1.out); have HUA := As.mk (HU1.out.trans hu (fun _ _ h => h)); have HPA := As.mk hu; have qa := cells2 ((hu.block (w.heap.size + 1) (lt_of_block HQ1.out) (fun h => h)).trans HQ1.out); clear hu) | (go_at_call 38; refine (HP.out _ ((Upd.alloc1 (fun _ => False) _ _).alloc _)).mono ?_; rintro r w1 ⟨rfl, hu⟩; obtain ⟨hb1, hb2, hu2⟩ := two_up hu; obtain ⟨q0, q1⟩ := cells2 hb2; have HB1 := As.mk hb1; have HQ1 := As.mk hb2; have HU1 := As.mk hu2; clear hu hb1 hb2 hu2))
      have HK8 := As.mk (fun v (hu : Upd (fun k => k = w.heap.size) w1 v) => (by
        obtain ⟨d0, d1⟩ := cells2 ((hu.block (w.heap.size + 1) (lt_of_block HQ1.out) (by omega)).trans HQ1.out)
        obtain ⟨e0, e1, e2, e3⟩ := HCS.out
        have hb9 := HBL.out
        have hh : ∀ k, v.cell? ⟨b, k, none⟩ = w.cell? ⟨b, k, none⟩ := fun k => (hu.cell (Nat.lt_of_lt_of_le hb9 HU1.out.size) (by omega)).trans (HU1.out.cell hb9 (fun h => h))
        exact ⟨d0, d1, (hh _).trans e0, (hh _).trans e1, (hh _).trans e2, (hh _).trans e3⟩ : (fun v => v.cell? ⟨w.heap.size + 1, 0, none⟩ = some (.pointer (some ⟨cb, 0, none⟩)) ∧ v.cell? ⟨w.heap.size + 1, 1, none⟩ = some (.slice (some ⟨b, o, none⟩) l.length c) ∧ v.cell? ⟨b, o + i * 4, none⟩ = some (.int .i64 y.k) ∧ v.cell? ⟨b, o + i * 4 + 1, none⟩ = some (.int .i64 y.t) ∧ v.cell? ⟨b, o + i * 4 + 2, none⟩ = some (.int .i64 y.n) ∧ v.cell? ⟨b, o + i * 4 + 3, none⟩ = some (.int .i64 y.m)) v))
      refine wp_region_T (P := Tryz.prog) (fun v => v.cell? ⟨w.heap.size + 1, 0, none⟩ = some (.pointer (some ⟨cb, 0, none⟩)) ∧ v.cell? ⟨w.heap.size + 1, 1, none⟩ = some (.slice (some ⟨b, o, none⟩) l.length c) ∧ v.cell? ⟨b, o + i * 4, none⟩ = some (.int .i64 y.k) ∧ v.cell? ⟨b, o + i * 4 + 1, none⟩ = some (.int .i64 y.t) ∧ v.cell? ⟨b, o + i * 4 + 2, none⟩ = some (.int .i64 y.n) ∧ v.cell? ⟨b, o + i * 4 + 3, none⟩ = some (.int .i64 y.m)) 13 (by kernel_rfl) ?_ (fun hHeld => ?_)
      · with_reducible (first | exact HK8.out _ (up1 HPA.out.drew) | exact HK8.out _ (up1 HP3.out) | exact HK8.out _ (up1 (HP3.out.alloc _)) | exact HK8.out _ (up1 HP4.out) | exact HK8.out _ (set8_upd (up1 HP4.out) _ _ _ _ _ _ _ _))
      refine zT 0 ?_
      refine zT 1 ?_
      refine zT 2 ?_
      refine zT 4 ?_
      (try simp only [Act.put, List.setIfInBounds_toArray, List.set_cons_zero, List.set_cons_succ])
      refine zT 5 ?_
      refine zT 6 ?_
      refine zT 7 ?_
      refine oT 3 (fun K hK => ?_)
      go_simp
      (go_at_call 51; refine (shut_calls _).mono ?_; rintro r w3 ⟨rfl, hu3⟩; have HP3 := As.mk (HPA.out.drew.trans hu3 (fun _ _ h => h)); clear hu3)
      refine hK.out _ _ (fun _ => by with_reducible (first | exact HK8.out _ (up1 HPA.out.drew) | exact HK8.out _ (up1 HP3.out) | exact HK8.out _ (up1 (HP3.out.alloc _)) | exact HK8.out _ (up1 HP4.out) | exact HK8.out _ (set8_upd (up1 HP4.out) _ _ _ _ _ _ _ _))) (fun hHeld => ?_)
      replace hHeld := hHeld (by decide)
      clear hK K
      (try simp only [Act.put, List.setIfInBounds_toArray, List.set_cons_zero, List.set_cons_succ])
      refine oT 8 (fun K hK => ?_)
      go_simp
      refine hK.out _ _ (fun _ => by with_reducible (first | exact HK8.out _ (up1 HPA.out.drew) | exact HK8.out _ (up1 HP3.out) | exact HK8.out _ (up1 (HP3.out.alloc _)) | exact HK8.out _ (up1 HP4.out) | exact HK8.out _ (set8_upd (up1 HP4.out) _ _ _ _ _ _ _ _))) (fun hHeld => ?_)
      replace hHeld := hHeld (by decide)
      clear hK K
      (try simp only [Act.put, List.setIfInBounds_toArray, List.set_cons_zero, List.set_cons_succ])
      refine oT 9 (fun K hK => ?_)
      go_simp
      (go_at_call 40; refine (HR.out (w3.alloc _) (some ⟨w3.heap.size, 0, none⟩) 2 ((HU1.out.trans HP3.out (fun _ _ h => h)).alloc _) (row_toks (l := [shutT, y]) (heap_alloc_new w3 _) trivial) (Nat.le_refl _)).mono ?_; rintro r w4 ⟨rfl, hu4⟩; have HP4 := As.mk ((HP3.out.alloc _).trans hu4 (fun _ _ h => h)); have HP4w := As.mk (HU1.out.trans HP4.out (fun _ _ h => h)); have HR4 := As.mk (Rp.row_pure (row_toks (F := fun k => w.heap.size < k) (l := [shutT, y]) (heap_alloc_new w3 _) (by have h7 := HP3.out.size; have h8 := lt_of_block HB1.out; omega)) hu4); have HB4 := As.mk ((HP4.out.block w.heap.size (lt_of_block HB1.out) (fun h => h)).trans HB1.out); have hbl4 : w.heap.size < w4.heap.size := (Array.getElem?_eq_some_iff.1 HB4.out).1; have hcf4 : ∀ i, w4.frozen? ⟨w.heap.size, i, none⟩ = false := (fun i => by simp [World.frozen?, HB4.out]); obtain ⟨k0, k1, k2, k3, k4, k5, k6, k7⟩ := cells8 HB4.out; clear hu4)
      refine hK.out _ _ (fun _ => by with_reducible (first | exact HK8.out _ (up1 HPA.out.drew) | exact HK8.out _ (up1 HP3.out) | exact HK8.out _ (up1 (HP3.out.alloc _)) | exact HK8.out _ (up1 HP4.out) | exact HK8.out _ (set8_upd (up1 HP4.out) _ _ _ _ _ _ _ _))) (fun hHeld => ?_)
      replace hHeld := hHeld (by decide)
      clear hK K
      (try simp only [Act.put, List.setIfInBounds_toArray, List.set_cons_zero, List.set_cons_succ])
      refine zT 10 ?_
      refine zT 11 ?_
      (try simp only [Act.put, List.setIfInBounds_toArray, List.set_cons_zero, List.set_cons_succ])
      refine oT 12 (fun K hK => ?_)
      go_simp
      refine hK.out _ _ (fun _ => by with_reducible (first | exact HK8.out _ (up1 HPA.out.drew) | exact HK8.out _ (up1 HP3.out) | exact HK8.out _ (up1 (HP3.out.alloc _)) | exact HK8.out _ (up1 HP4.out) | exact HK8.out _ (set8_upd (up1 HP4.out) _ _ _ _ _ _ _ _))) (fun hHeld => ?_)
      replace hHeld := hHeld (by decide)
      clear hK K
      (try simp only [Act.put, List.setIfInBounds_toArray, List.set_cons_zero, List.set_cons_succ])
      refine oT 13 (fun K hK => ?_)
      go_simp
      refine hK.out _ _ (fun h => absurd rfl h) (fun hHeld => ?_)
      clear hK K
      (try simp only [Act.put, List.setIfInBounds_toArray, List.set_cons_zero, List.set_cons_succ])
      refine wpAnyT_done (by kernel_rfl) ?_ _
      go_wp2
      exact bodyPost_ret (step_end (rb := w.heap.size) rfl _ rfl (set8 (rb := w.heap.size) HB4.out _ _ _ _ _ _ _ _)) rfl ⟨_, _, ⟨rfl, set8_pure HP4w.out (Nat.le_refl _) _ _ _ _ _ _ _ _⟩, told_row (e := e) HT.out.1 HT.out.2 (Rp.row_fp (G := fun k => w.heap.size ≤ k) (Rp.row_upd HR4.out (set8_upd (Upd.refl _ _) _ _ _ _ _ _ _ _) (fun k _ h e => by omega)) (fun _ h => by (try have h8 := HL.out); omega)) (Nat.le_refl 2), fun h => ⟨if_neg h, if_neg h⟩⟩
  · obtain ⟨rfl, rfl⟩ := h0 p0
    have f0 : (e != 0) = true := by simpa using p0
    clear hr hi h0 h1 h3 hrow p0 HAR
    unfold Told StepD.val at *
    go_enter Tryz.func26, Tryz.ntmps26
    go_wp2_with (first | (go_at_call 39; refine (refuse_calls _).mono ?_; rintro r w2 ⟨rfl, hu⟩; have HB2 := As.mk ((hu.block w.heap.size (lt_of_block HB1.out) (fun h => h)).trans HB1.out); have HU2 := As.mk (HU1.out.trans hu (fun _ _ h => h)); clear hu; apply As.out) | (go_at_call 38; refine (HP.out _ ((Upd.alloc1 (fun _ => False) _ _).alloc _)).mono ?_; rintro r w1 ⟨rfl, hu⟩; obtain ⟨hb1, hb2, hu2⟩ := two_up hu; obtain ⟨q0, q1⟩ := cells2 hb2; have HB1 := As.mk hb1; have HQ1 := As.mk hb2; have HU1 := As.mk hu2; clear hu hb1 hb2 hu2))
    refine ⟨?_⟩
    have hbl : w.heap.size < w2.heap.size := (Array.getElem?_eq_some_iff.1 HB2.out).1
    have hcf : ∀ i, w2.frozen? ⟨w.heap.size, i, none⟩ = false := fun i => by simp [World.frozen?, HB2.out]
    obtain ⟨k0, k1, k2, k3, k4, k5, k6, k7⟩ := cells8 HB2.out
    go_wp2
    exact bodyPost_ret (step_end (rb := w.heap.size) rfl _ rfl (set8 (rb := w.heap.size) HB2.out _ _ _ _ _ _ _ _)) rfl ⟨none, 0, ⟨rfl, set8_pure HU2.out (Nat.le_refl _) _ _ _ _ _ _ _ _⟩, ⟨.inl rfl, Nat.zero_le _⟩, fun _ => ⟨rfl, rfl⟩⟩
theorem splitsE_def : True := trivial
def splErr (l : List Tok) (p : Int) : Int := if placesErr l p p ≠ 0 then placesErr l p p else if aroundL l p < 0 then 6 else remapErr l (repl p p [shutT, (l[(aroundL l p).toNat]?).getD shutT])
def splS (l : List Tok) (p : Int) : StepD := repl p p [shutT, (l[(aroundL l p).toNat]?).getD shutT]
theorem Split_new {w : World} {F : Nat → Prop} {cb : Nat} {A : Option Addr} {c : Nat} {l : List Tok} {p : Int} (h : SchR w cb houseRules houseGroups) (hr : tokR.row w F A l) (hlc : l.length ≤ c) (hb : l.length ≤ 1048576 * 4) :
    Calls Tryz.prog 26 #[.pointer (some ⟨cb, 0, none⟩), .slice A l.length c, .int .i64 p] w (fun r w' => ∃ B' c', Told (toldS (splS l p) (splErr l p)) B' c' (splErr l p) w r w' ∧ (tokR.row w' (fun k => w.heap.size ≤ k) B' (toldS (splS l p) (splErr l p)).sl ∧ (toldS (splS l p) (splErr l p)).sl.length ≤ c') ∧ (splErr l p ≠ 0 → B' = none ∧ c' = 0)) := by
  refine Split_at (pe := placesErr l p p) (ar := aroundL l p) hr hlc hb (fun W hW => places_calls (h.pure hW) (Rp.row_pure hr hW) hb) (fun W hW => around_calls (Rp.row_pure hr hW) hb hlc) (fun i y p0 ha hy V A1 c1 hV hrow hc1 => ?_) (fun p0 ha => ?_) (fun hp => ?_) (fun p0 ha => ?_) (fun he => by rw [toldS_refused he]; rfl)
  · have h1 : (l[(aroundL l p).toNat]?).getD shutT = y := by rw [ha, show ((i : Int)).toNat = i by omega, hy]; rfl
    have he : splErr l p = remapErr l (repl p p [shutT, y]) := by unfold splErr; rw [if_neg (by omega), if_neg (by omega), h1]
    have hs : splS l p = repl p p [shutT, y] := by unfold splS; rw [h1]
    rw [he, hs]
    exact replace_repl (sl := [shutT, y]) (h.pure hV) (house_ne (places_zero.1 p0).1) (Rp.row_pure hr hV) hlc hb hrow hc1 (by simp)
  · obtain ⟨i, y, h1, h2, _, _⟩ := around_open (l := l) (p := p) (by omega)
    refine ⟨i, y, h1, h2, fun he => ?_⟩
    rw [he, toldS_zero]
    unfold splS
    rw [h1, show ((i : Int)).toNat = i by omega, h2]
    rfl
  · have he : splErr l p = placesErr l p p := by unfold splErr; rw [if_pos hp]
    rw [he]
    exact ⟨toldS_refused hp, rfl⟩
  · have he : splErr l p = 6 := by unfold splErr; rw [if_neg (by omega), if_pos ha]
    rw [he]
    exact ⟨toldS_refused (by decide), rfl⟩
theorem Split_calls {w : World} {F : Nat → Prop} {cb : Nat} {A : Option Addr} {c : Nat} {l : List Tok} {p : Int} (h : SchR w cb houseRules houseGroups) (hr : tokR.row w F A l) (hlc : l.length ≤ c) (hb : l.length ≤ 1048576 * 4) :
    Calls Tryz.prog 26 #[.pointer (some ⟨cb, 0, none⟩), .slice A l.length c, .int .i64 p] w (fun r w' => ∃ B' c', Told (toldS (splS l p) (splErr l p)) B' c' (splErr l p) w r w' ∧ (tokR.row w' (fun _ => True) B' (toldS (splS l p) (splErr l p)).sl ∧ (toldS (splS l p) (splErr l p)).sl.length ≤ c') ∧ (splErr l p ≠ 0 → B' = none ∧ c' = 0)) :=
  (Split_new h hr hlc hb).mono fun r w' ⟨B', c', h1, ⟨h2, h3⟩, h4⟩ => ⟨B', c', h1, ⟨Rp.row_fp h2 (fun _ _ => trivial), h3⟩, h4⟩
set_option maxRecDepth 100000 in
set_option maxHeartbeats 4000000 in
theorem Join_at {w : World} {F : Nat → Prop} {cb b o : Nat} {c : Nat} {l : List Tok} {q m : Nat} {y : Tok} (hrow : tokR.row w F (some ⟨b, o, none⟩) l) (hm : m = q + 1) (hq : l[q]? = some shutT) (hy : l[m]? = some y) (hyk : y.k = 1) (hb : l.length ≤ 1048576 * 4)
    (hp : ∀ W, Pure w W → Calls Tryz.prog 38 #[deskV cb (some ⟨b, o, none⟩) l.length c, .int .i64 (m : Nat), .int .i64 (m : Nat)] W (fun r w' => r = .returned (.int .i64 0) ∧ Pure W w'))
    (hr : ∀ W, Pure w W → Calls Tryz.prog 40 #[deskV cb (some ⟨b, o, none⟩) l.length c, .int .i64 (q : Nat), .int .i64 ((m : Nat) + 1), .slice none 0 0] W (Told (repl (q : Nat) ((m : Nat) + 1) []) none 0 0 W)) :
    Calls Tryz.prog 27 #[.pointer (some ⟨cb, 0, none⟩), .slice (some ⟨b, o, none⟩) l.length c, .int .i64 (m : Nat)] w (Told (repl (q : Nat) ((m : Nat) + 1) []) none 0 0 w) := by
  have HP := As.mk hp
  have HR := As.mk hr
  obtain ⟨b1, o1, hA, hF, hbl0, c0, c1, c2, c3⟩ := tok_at hrow hq
  obtain ⟨b2, o2, hA2, _, _, d0, _, _, _⟩ := tok_at hrow hy
  cases hA
  cases hA2
  rw [hyk] at d0
  have ml : m < l.length := (List.getElem?_eq_some_iff.1 hy).1
  have HBL := As.mk hbl0
  have HCS := As.mk (And.intro c0 (And.intro c1 (And.intro c2 (And.intro c3 d0))))
  have i1 : ¬ ((m : Int) = 0) := by omega
  have i2 : ¬ ((m : Int) = (l.length : Int)) := by omega
  have i3 : q < l.length := by omega
  have j1 : ((m : Int) == 0) = false := by simpa using i1
  have j2 : ((m : Int) == (l.length : Int)) = false := by simp; omega
  have hw1 : IntKind.i64.wrap ((m : Int) - 1) = (q : Int) := by rw [IntWalk.i64_in _ (by omega)]; omega
  have hw2 : IntKind.i64.wrap ((m : Int) + 1) = (m : Int) + 1 := IntWalk.i64_in _ (by omega)
  clear hp hr hrow hq hy hyk hF hbl0 c0 c1 c2 c3 d0 hm
  unfold Told StepD.val repl at *
  go_enter Tryz.func27, Tryz.ntmps27
  go_wp2_with (go_at_call 38; refine (HP.out _ ((Upd.alloc1 (fun _ => False) _ _).alloc _)).mono ?_; rintro r w1 ⟨rfl, hu⟩; obtain ⟨hb1, hb2, hu2⟩ := two_up hu; obtain ⟨q0, q1⟩ := cells2 hb2; have HB1 := As.mk hb1; have HQ1 := As.mk hb2; have HU1 := As.mk hu2; clear hu hb1 hb2 hu2)
  have HK8 := As.mk (fun v (hu : Pure w1 v) => (by
    obtain ⟨e0, e1, e2, e3, e4⟩ := HCS.out
    have hb9 := HBL.out
    have hh : ∀ k, v.cell? ⟨b, k, none⟩ = w.cell? ⟨b, k, none⟩ := fun k => (hu.cell (Nat.lt_of_lt_of_le hb9 HU1.out.size) (fun h => h)).trans (HU1.out.cell hb9 (fun h => h))
    exact ⟨(hh _).trans e0, (hh _).trans e1, (hh _).trans e2, (hh _).trans e3, (hh _).trans e4⟩ : v.cell? ⟨b, o + q * 4, none⟩ = some (.int .i64 2) ∧ v.cell? ⟨b, o + q * 4 + 1, none⟩ = some (.int .i64 0) ∧ v.cell? ⟨b, o + q * 4 + 2, none⟩ = some (.int .i64 0) ∧ v.cell? ⟨b, o + q * 4 + 3, none⟩ = some (.int .i64 0) ∧ v.cell? ⟨b, o + m * 4, none⟩ = some (.int .i64 1)))
  refine wp_region_held_drew (S := (fun v => v.cell? ⟨b, o + q * 4, none⟩ = some (.int .i64 2) ∧ v.cell? ⟨b, o + q * 4 + 1, none⟩ = some (.int .i64 0) ∧ v.cell? ⟨b, o + q * 4 + 2, none⟩ = some (.int .i64 0) ∧ v.cell? ⟨b, o + q * 4 + 3, none⟩ = some (.int .i64 0) ∧ v.cell? ⟨b, o + m * 4, none⟩ = some (.int .i64 1))) (by kernel_rfl) ?_ (fun hHeld => ?_)
  · with_reducible (first | exact HK8.out _ (Upd.refl _ _).drew | exact HK8.out _ HP3.out)
  refine zH 0 ?_
  refine zH 1 ?_
  (try simp only [Act.put, List.setIfInBounds_toArray, List.set_cons_zero, List.set_cons_succ])
  refine zH 2 ?_
  refine zH 3 ?_
  refine zH 4 ?_
  refine zH 5 ?_
  (try simp only [Act.put, List.setIfInBounds_toArray, List.set_cons_zero, List.set_cons_succ])
  refine zH 6 ?_
  refine zH 7 ?_
  refine zH 8 ?_
  refine zH 9 ?_
  (try simp only [Act.put, List.setIfInBounds_toArray, List.set_cons_zero, List.set_cons_succ])
  refine zH 10 ?_
  refine zH 11 ?_
  refine zH 12 ?_
  refine zH 13 ?_
  (try simp only [Act.put, List.setIfInBounds_toArray, List.set_cons_zero, List.set_cons_succ])
  refine wpAnyH_ready (rs := [14]) (by kernel_rfl) (by simp) (AllReadyH.cons (o := { dst := (some 37), op := (Go.Op.call { callee := (Go.Callee.value (Go.Operand.func 51)), args := #[], argTypes := #[] }), type := 40, pos := "edit.go:88", after := #[{ on := 8, ground := Go.Ground.chain }, { on := 8, ground := Go.Ground.guard }], guard := (some (8, false)) }) rfl (fun K hK => ?_) AllReadyH.nil)
  go_simp
  (go_at_call 51; refine (shut_calls _).mono ?_; rintro r w3 ⟨rfl, hu3⟩; have HP3 := As.mk ((Upd.refl _ _).drew.trans hu3 (fun _ _ h => h)); have HU3 := As.mk (HU1.out.trans HP3.out (fun _ _ h => h)); have HB3 := As.mk ((HP3.out.block w.heap.size (lt_of_block HB1.out) (fun h => h)).trans HB1.out); obtain ⟨z0, z1⟩ := cells2 ((HP3.out.block (w.heap.size + 1) (lt_of_block HQ1.out) (fun h => h)).trans HQ1.out); clear hu3)
  refine hK.out _ _ (by with_reducible (first | exact HK8.out _ (Upd.refl _ _).drew | exact HK8.out _ HP3.out)) (fun hHeld => ?_)
  clear hK K
  (try simp only [Act.put, List.setIfInBounds_toArray, List.set_cons_zero, List.set_cons_succ])
  refine zH 15 ?_
  refine zH 16 ?_
  refine zH 17 ?_
  (try simp only [Act.put, List.setIfInBounds_toArray, List.set_cons_zero, List.set_cons_succ])
  refine zH 18 ?_
  refine zH 19 ?_
  refine zH 20 ?_
  refine zH 21 ?_
  (try simp only [Act.put, List.setIfInBounds_toArray, List.set_cons_zero, List.set_cons_succ])
  refine zH 22 ?_
  refine zH 23 ?_
  refine zH 24 ?_
  refine wpAnyH_done (by kernel_rfl) ?_ _
  go_wp2_with (go_at_call 40; refine (HR.out _ HU3.out).mono ?_; rintro r w2 ⟨rfl, hu⟩; have HB2 := As.mk ((hu.block w.heap.size (lt_of_block HB3.out) (fun h => h)).trans HB3.out); have HU2 := As.mk (HU3.out.trans hu (fun _ _ h => h)); clear hu; apply As.out)
  refine ⟨?_⟩
  have hbl : w.heap.size < w2.heap.size := (Array.getElem?_eq_some_iff.1 HB2.out).1
  have hcf : ∀ i, w2.frozen? ⟨w.heap.size, i, none⟩ = false := fun i => by simp [World.frozen?, HB2.out]
  obtain ⟨k0, k1, k2, k3, k4, k5, k6, k7⟩ := cells8 HB2.out
  go_wp2
  exact bodyPost_ret (step_end (rb := w.heap.size) rfl _ rfl (set8 (rb := w.heap.size) HB2.out _ _ _ _ _ _ _ _)) rfl ⟨rfl, set8_pure HU2.out (Nat.le_refl _) _ _ _ _ _ _ _ _⟩
theorem Join_ok {w : World} {F : Nat → Prop} {cb b o : Nat} {c : Nat} {l : List Tok} {q m : Nat} {y : Tok} (h : SchR w cb houseRules houseGroups) (hrow : tokR.row w F (some ⟨b, o, none⟩) l) (hlc : l.length ≤ c) (hm : m = q + 1) (hq : l[q]? = some shutT) (hy : l[m]? = some y) (hyk : y.k = 1) (hl : (houseCheck l).2 = 0) (hre : remapErr l (repl (q : Nat) ((m : Nat) + 1) []) = 0) :
    Calls Tryz.prog 27 #[.pointer (some ⟨cb, 0, none⟩), .slice (some ⟨b, o, none⟩) l.length c, .int .i64 (m : Nat)] w (Told (repl (q : Nat) ((m : Nat) + 1) []) none 0 0 w) := by
  have hb : l.length ≤ 1048576 * 4 := by have := house_len_le hl; omega
  have ml : m < l.length := (List.getElem?_eq_some_iff.1 hy).1
  refine Join_at hrow hm hq hy hyk hb (fun W hW => ?_) (fun W hW => ?_)
  · have := places_calls (f := (m : Int)) (t := (m : Int)) (c := c) (h.pure hW) (Rp.row_pure hrow hW) hb
    rw [places_zero.2 ⟨hl, by omega, by omega, by omega⟩] at this
    exact this
  · have := replace_repl (f := (q : Int)) (t := (m : Int) + 1) (B := none) (cs := 0) (sl := []) (G := fun _ => True) (h.pure hW) (house_ne hl) (Rp.row_pure hrow hW) hlc hb (.inl rfl) (Nat.le_refl _) (by simp)
    rw [hre] at this
    exact this
end Go.Proofs.YteeindicpbcjaaaGreatDoor
