/- edit.Retype. (printed by gen/gen_edr.py) -/
import Derived.Test.YteeindicpbcjaaaGreatDoorEdAw
import Derived.Test.YteeindicpbcjaaaGreatDoorHeldZ
namespace Go.Proofs.YteeindicpbcjaaaGreatDoor
open Go.RowKit
set_option linter.unusedVariables false
set_option linter.unusedSimpArgs false

theorem cells4 {w : World} {k : Nat} {x0 x1 x2 x3 : Value} {t : TypeId} (h : w.heap[k]? = some (.cells #[x0, x1, x2, x3] t (0, 0))) : w.cell? ⟨k, 0, none⟩ = some x0 ∧ w.cell? ⟨k, 1, none⟩ = some x1 ∧ w.cell? ⟨k, 2, none⟩ = some x2 ∧ w.cell? ⟨k, 3, none⟩ = some x3 := by
  refine ⟨?_, ?_, ?_, ?_⟩ <;> simp [World.cell?, h]
set_option maxRecDepth 100000 in
set_option maxHeartbeats 4000000 in
theorem Retype_at {w : World} {F : Nat → Prop} {cb : Nat} {A : Option Addr} {c : Nat} {l : List Tok} {p t n e pe ar : Int} {rb : Bool} {s' : StepD} (hb : l.length ≤ 1048576 * 4) (hal : ar < l.length)
    (hp : ∀ W, Pure w W → Calls Tryz.prog 38 #[deskV cb A l.length c, .int .i64 p, .int .i64 p] W (fun r w' => r = .returned (.int .i64 pe) ∧ Pure W w'))
    (ha : ∀ W, Pure w W → Calls Tryz.prog 20 #[.slice A l.length c, .int .i64 p] W (fun r w' => r = .returned (.int .i64 ar) ∧ Pure W w'))
    (hrb : rightB (openT t n) = rb)
    (hr : pe = 0 → 0 ≤ ar → rb = true → ∀ V A1 c1, Pure w V → tokR.row V (fun _ => True) A1 [openT t n] → 1 ≤ c1 → Calls Tryz.prog 40 #[deskV cb A l.length c, .int .i64 ar, .int .i64 (ar + 1), .slice A1 1 c1] V (Told s' (toldB A1 e) (toldC c1 e) e V))
    (hi : pe = 0 → 0 ≤ ar → rb = true → (e = 0 → s'.sl = [openT t n]))
    (h0 : pe ≠ 0 → s' = repl 0 0 [] ∧ e = pe) (h1 : pe = 0 → ar < 0 → s' = repl 0 0 [] ∧ e = 6) (h2 : pe = 0 → 0 ≤ ar → rb = false → s' = repl 0 0 [] ∧ e = 1) (h3 : e ≠ 0 → s'.sl = []) :
    Calls Tryz.prog 19 #[.pointer (some ⟨cb, 0, none⟩), .slice A l.length c, .int .i64 p, .int .i64 t, .int .i64 n] w (fun r w' => ∃ B' c', Told s' B' c' e w r w' ∧ (tokR.row w' (fun k => w.heap.size ≤ k) B' s'.sl ∧ s'.sl.length ≤ c') ∧ (e ≠ 0 → B' = none ∧ c' = 0)) := by
  have HP := As.mk hp
  have HAR := As.mk ha
  have HRT := As.mk (fun W => flatRight_is hrb W)
  clear hp ha
  by_cases p0 : pe = 0
  · by_cases a0 : ar < 0
    · obtain ⟨rfl, rfl⟩ := h1 p0 a0
      subst p0
      clear hr hi h0 h1 h2 h3
      unfold Told StepD.val at *
      go_enter Tryz.func19, Tryz.ntmps19
      go_wp2_with (first | (go_at_call 39; refine (refuse_calls _).mono ?_; rintro r w2 ⟨rfl, hu⟩; obtain ⟨_, hu2⟩ := one_up hu; have HB2 := As.mk ((hu2.block w.heap.size (lt_of_block HBA.out) (fun h => h)).trans HBA.out); have HU2 := As.mk (HUA.out.trans hu2 (fun _ _ h => h)); clear hu hu2; apply As.out) | (go_at_call 20; refine (HAR.out w1 HU1.out).mono ?_; rintro r wa ⟨rfl, hu⟩; have HBA := As.mk ((hu.block w.heap.size (lt_of_block HB1.out) (fun h => h)).trans HB1.out); have HUA := As.mk (HU1.out.trans hu (fun _ _ h => h)); have HPA := As.mk hu; have HQA := As.mk ((hu.block (w.heap.size + 1) (lt_of_block HQ1.out) (fun h => h)).trans HQ1.out); have qa := cells2 ((hu.block (w.heap.size + 1) (lt_of_block HQ1.out) (fun h => h)).trans HQ1.out); clear hu) | (go_at_call 38; refine (HP.out _ ((Upd.alloc1 (fun _ => False) _ _).alloc _)).mono ?_; rintro r w1 ⟨rfl, hu⟩; obtain ⟨hb1, hb2, hu2⟩ := two_up hu; obtain ⟨q0, q1⟩ := cells2 hb2; have HB1 := As.mk hb1; have HQ1 := As.mk hb2; have HU1 := As.mk hu2; clear hu hb1 hb2 hu2))
      refine ⟨?_⟩
      have hbl : w.heap.size < w2.heap.size := (Array.getElem?_eq_some_iff.1 HB2.out).1
      have hcf : ∀ i, w2.frozen? ⟨w.heap.size, i, none⟩ = false := fun i => by simp [World.frozen?, HB2.out]
      obtain ⟨k0, k1, k2, k3, k4, k5, k6, k7⟩ := cells8 HB2.out
      go_wp2
      exact bodyPost_ret (step_end (rb := w.heap.size) rfl _ rfl (set8 (rb := w.heap.size) HB2.out _ _ _ _ _ _ _ _)) rfl ⟨none, 0, ⟨rfl, set8_pure HU2.out (Nat.le_refl _) _ _ _ _ _ _ _ _⟩, ⟨.inl rfl, Nat.zero_le _⟩, fun _ => ⟨rfl, rfl⟩⟩
    · cases hrbc : rb
      · obtain ⟨rfl, rfl⟩ := h2 p0 (by omega) hrbc
        rw [hrbc] at HRT
        subst p0
        clear hr hi h0 h1 h2 h3
        unfold Told StepD.val at *
        go_enter Tryz.func19, Tryz.ntmps19
        go_wp2_with (first | (go_at_call 39; refine (refuse_calls _).mono ?_; rintro r w2 ⟨rfl, hu⟩; have HB2 := As.mk ((hu.block w.heap.size (lt_of_block HB3.out) (fun h => h)).trans HB3.out); have HU2 := As.mk (HU3.out.trans hu (fun _ _ h => h)); clear hu; apply As.out) | (go_at_call 44; refine (HRT.out _).mono ?_; rintro r w3 ⟨rfl, hu⟩; obtain ⟨hx3, hu2⟩ := one_up hu; obtain ⟨t0, t1, t2, t3⟩ := cells4 hx3; have HB3 := As.mk ((hu2.block w.heap.size (lt_of_block HBA.out) (fun h => h)).trans HBA.out); obtain ⟨z0, z1⟩ := cells2 ((hu2.block (w.heap.size + 1) (lt_of_block HQA.out) (fun h => h)).trans HQA.out); have HU3 := As.mk (HUA.out.trans hu2 (fun _ _ h => h)); clear hu hu2 hx3) | (go_at_call 20; refine (HAR.out w1 HU1.out).mono ?_; rintro r wa ⟨rfl, hu⟩; have HBA := As.mk ((hu.block w.heap.size (lt_of_block HB1.out) (fun h => h)).trans HB1.out); have HUA := As.mk (HU1.out.trans hu (fun _ _ h => h)); have HPA := As.mk hu; have HQA := As.mk ((hu.block (w.heap.size + 1) (lt_of_block HQ1.out) (fun h => h)).trans HQ1.out); have qa := cells2 ((hu.block (w.heap.size + 1) (lt_of_block HQ1.out) (fun h => h)).trans HQ1.out); clear hu) | (go_at_call 38; refine (HP.out _ ((Upd.alloc1 (fun _ => False) _ _).alloc _)).mono ?_; rintro r w1 ⟨rfl, hu⟩; obtain ⟨hb1, hb2, hu2⟩ := two_up hu; obtain ⟨q0, q1⟩ := cells2 hb2; have HB1 := As.mk hb1; have HQ1 := As.mk hb2; have HU1 := As.mk hu2; clear hu hb1 hb2 hu2))
        refine ⟨?_⟩
        have hbl : w.heap.size < w2.heap.size := (Array.getElem?_eq_some_iff.1 HB2.out).1
        have hcf : ∀ i, w2.frozen? ⟨w.heap.size, i, none⟩ = false := fun i => by simp [World.frozen?, HB2.out]
        obtain ⟨k0, k1, k2, k3, k4, k5, k6, k7⟩ := cells8 HB2.out
        go_wp2
        exact bodyPost_ret (step_end (rb := w.heap.size) rfl _ rfl (set8 (rb := w.heap.size) HB2.out _ _ _ _ _ _ _ _)) rfl ⟨none, 0, ⟨rfl, set8_pure HU2.out (Nat.le_refl _) _ _ _ _ _ _ _ _⟩, ⟨.inl rfl, Nat.zero_le _⟩, fun _ => ⟨rfl, rfl⟩⟩
      · have HR := As.mk (hr p0 (by omega) hrbc)
        have HT := As.mk (And.intro (hi p0 (by omega) hrbc) h3)
        rw [hrbc] at HRT
        have hw : IntKind.i64.wrap (ar + 1) = ar + 1 := IntWalk.i64_in _ (by omega)
        subst p0
        clear hr hi h0 h1 h2 h3
        unfold Told StepD.val at *
        go_enter Tryz.func19, Tryz.ntmps19
        go_wp2_with (first | (go_at_call 40; refine (HR.out (w3.alloc _) (some ⟨w3.heap.size, 0, none⟩) 1 (HU3.out.alloc _) (row_toks (l := [openT t n]) (heap_alloc_new w3 _) trivial) (Nat.le_refl _)).mono ?_; rintro r w2 ⟨rfl, hu⟩; obtain ⟨_, hu2⟩ := one_up hu; have HR2 := As.mk (Rp.row_pure (row_toks (F := fun k => w.heap.size < k) (l := [openT t n]) (heap_alloc_new w3 _) (lt_of_block HB3.out)) hu); have HB2 := As.mk ((hu2.block w.heap.size (lt_of_block HB3.out) (fun h => h)).trans HB3.out); have HU2 := As.mk (HU3.out.trans hu2 (fun _ _ h => h)); clear hu hu2; apply As.out) | (go_at_call 44; refine (HRT.out _).mono ?_; rintro r w3 ⟨rfl, hu⟩; obtain ⟨hx3, hu2⟩ := one_up hu; obtain ⟨t0, t1, t2, t3⟩ := cells4 hx3; have HB3 := As.mk ((hu2.block w.heap.size (lt_of_block HBA.out) (fun h => h)).trans HBA.out); obtain ⟨z0, z1⟩ := cells2 ((hu2.block (w.heap.size + 1) (lt_of_block HQA.out) (fun h => h)).trans HQA.out); have HU3 := As.mk (HUA.out.trans hu2 (fun _ _ h => h)); clear hu hu2 hx3) | (go_at_call 20; refine (HAR.out w1 HU1.out).mono ?_; rintro r wa ⟨rfl, hu⟩; have HBA := As.mk ((hu.block w.heap.size (lt_of_block HB1.out) (fun h => h)).trans HB1.out); have HUA := As.mk (HU1.out.trans hu (fun _ _ h => h)); have HPA := As.mk hu; have HQA := As.mk ((hu.block (w.heap.size + 1) (lt_of_block HQ1.out) (fun h => h)).trans HQ1.out); have qa := cells2 ((hu.block (w.heap.size + 1) (lt_of_block HQ1.out) (fun h => h)).trans HQ1.out); clear hu) | (go_at_call 38; refine (HP.out _ ((Upd.alloc1 (fun _ => False) _ _).alloc _)).mono ?_; rintro r w1 ⟨rfl, hu⟩; obtain ⟨hb1, hb2, hu2⟩ := two_up hu; obtain ⟨q0, q1⟩ := cells2 hb2; have HB1 := As.mk hb1; have HQ1 := As.mk hb2; have HU1 := As.mk hu2; clear hu hb1 hb2 hu2))
        refine ⟨?_⟩
        have hbl : w.heap.size < w2.heap.size := (Array.getElem?_eq_some_iff.1 HB2.out).1
        have hcf : ∀ i, w2.frozen? ⟨w.heap.size, i, none⟩ = false := fun i => by simp [World.frozen?, HB2.out]
        obtain ⟨k0, k1, k2, k3, k4, k5, k6, k7⟩ := cells8 HB2.out
        go_wp2
        exact bodyPost_ret (step_end (rb := w.heap.size) rfl _ rfl (set8 (rb := w.heap.size) HB2.out _ _ _ _ _ _ _ _)) rfl ⟨_, _, ⟨rfl, set8_pure HU2.out (Nat.le_refl _) _ _ _ _ _ _ _ _⟩, told_row (e := e) HT.out.1 HT.out.2 (Rp.row_fp (G := fun k => w.heap.size ≤ k) (Rp.row_upd HR2.out (set8_upd (Upd.refl _ _) _ _ _ _ _ _ _ _) (fun k _ h e => by omega)) (fun _ h => by (try have h8 := HL.out); omega)) (Nat.le_refl 1), fun h => ⟨if_neg h, if_neg h⟩⟩
  · obtain ⟨rfl, rfl⟩ := h0 p0
    have f0 : (e != 0) = true := by simpa using p0
    clear hr hi h0 h1 h2 h3 p0 HAR HRT
    unfold Told StepD.val at *
    go_enter Tryz.func19, Tryz.ntmps19
    go_wp2_with (first | (go_at_call 39; refine (refuse_calls _).mono ?_; rintro r w2 ⟨rfl, hu⟩; have HB2 := As.mk ((hu.block w.heap.size (lt_of_block HB1.out) (fun h => h)).trans HB1.out); have HU2 := As.mk (HU1.out.trans hu (fun _ _ h => h)); clear hu; apply As.out) | (go_at_call 38; refine (HP.out _ ((Upd.alloc1 (fun _ => False) _ _).alloc _)).mono ?_; rintro r w1 ⟨rfl, hu⟩; obtain ⟨hb1, hb2, hu2⟩ := two_up hu; obtain ⟨q0, q1⟩ := cells2 hb2; have HB1 := As.mk hb1; have HQ1 := As.mk hb2; have HU1 := As.mk hu2; clear hu hb1 hb2 hu2))
    refine ⟨?_⟩
    have hbl : w.heap.size < w2.heap.size := (Array.getElem?_eq_some_iff.1 HB2.out).1
    have hcf : ∀ i, w2.frozen? ⟨w.heap.size, i, none⟩ = false := fun i => by simp [World.frozen?, HB2.out]
    obtain ⟨k0, k1, k2, k3, k4, k5, k6, k7⟩ := cells8 HB2.out
    go_wp2
    exact bodyPost_ret (step_end (rb := w.heap.size) rfl _ rfl (set8 (rb := w.heap.size) HB2.out _ _ _ _ _ _ _ _)) rfl ⟨none, 0, ⟨rfl, set8_pure HU2.out (Nat.le_refl _) _ _ _ _ _ _ _ _⟩, ⟨.inl rfl, Nat.zero_le _⟩, fun _ => ⟨rfl, rfl⟩⟩
def retErr (l : List Tok) (p t n : Int) : Int := if placesErr l p p ≠ 0 then placesErr l p p else if aroundL l p < 0 then 6 else if rightB (openT t n) = false then 1 else remapErr l (repl (aroundL l p) (aroundL l p + 1) [openT t n])
theorem around_lt (l : List Tok) (p : Int) : aroundL l p < l.length := by
  by_cases h : aroundL l p = -1
  · omega
  · obtain ⟨i, y, h1, h2, _, _⟩ := around_open h
    have := (List.getElem?_eq_some_iff.1 h2).1
    omega
theorem Retype_new {w : World} {F : Nat → Prop} {cb : Nat} {A : Option Addr} {c : Nat} {l : List Tok} {p t n : Int} (h : SchR w cb houseRules houseGroups) (hr : tokR.row w F A l) (hlc : l.length ≤ c) (hb : l.length ≤ 1048576 * 4) :
    Calls Tryz.prog 19 #[.pointer (some ⟨cb, 0, none⟩), .slice A l.length c, .int .i64 p, .int .i64 t, .int .i64 n] w (fun r w' => ∃ B' c', Told (toldS (repl (aroundL l p) (aroundL l p + 1) [openT t n]) (retErr l p t n)) B' c' (retErr l p t n) w r w' ∧ (tokR.row w' (fun k => w.heap.size ≤ k) B' (toldS (repl (aroundL l p) (aroundL l p + 1) [openT t n]) (retErr l p t n)).sl ∧ (toldS (repl (aroundL l p) (aroundL l p + 1) [openT t n]) (retErr l p t n)).sl.length ≤ c') ∧ (retErr l p t n ≠ 0 → B' = none ∧ c' = 0)) := by
  refine Retype_at (F := F) (pe := placesErr l p p) (ar := aroundL l p) (rb := rightB (openT t n)) hb (around_lt l p) (fun W hW => places_calls (h.pure hW) (Rp.row_pure hr hW) hb) (fun W hW => around_calls (Rp.row_pure hr hW) hb hlc) rfl (fun p0 ha hq V A1 c1 hV hrow hc1 => ?_) (fun p0 ha hq he => ?_) (fun hp => ?_) (fun p0 ha => ?_) (fun p0 ha hq => ?_) (fun he => by rw [toldS_refused he]; rfl)
  · have he : retErr l p t n = remapErr l (repl (aroundL l p) (aroundL l p + 1) [openT t n]) := by unfold retErr; rw [if_neg (by omega), if_neg (by omega), if_neg (by rw [hq]; decide)]
    rw [he]
    exact replace_repl (sl := [openT t n]) (h.pure hV) (house_ne (places_zero.1 p0).1) (Rp.row_pure hr hV) hlc hb hrow hc1 (by simp)
  · rw [he]; rfl
  · have he : retErr l p t n = placesErr l p p := by unfold retErr; rw [if_pos hp]
    rw [he]
    exact ⟨toldS_refused hp, rfl⟩
  · have he : retErr l p t n = 6 := by unfold retErr; rw [if_neg (by omega), if_pos ha]
    rw [he]
    exact ⟨toldS_refused (by decide), rfl⟩
  · have he : retErr l p t n = 1 := by unfold retErr; rw [if_neg (by omega), if_neg (by omega), if_pos hq]
    rw [he]
    exact ⟨toldS_refused (by decide), rfl⟩
theorem Retype_calls {w : World} {F : Nat → Prop} {cb : Nat} {A : Option Addr} {c : Nat} {l : List Tok} {p t n : Int} (h : SchR w cb houseRules houseGroups) (hr : tokR.row w F A l) (hlc : l.length ≤ c) (hb : l.length ≤ 1048576 * 4) :
    Calls Tryz.prog 19 #[.pointer (some ⟨cb, 0, none⟩), .slice A l.length c, .int .i64 p, .int .i64 t, .int .i64 n] w (fun r w' => ∃ B' c', Told (toldS (repl (aroundL l p) (aroundL l p + 1) [openT t n]) (retErr l p t n)) B' c' (retErr l p t n) w r w' ∧ (tokR.row w' (fun _ => True) B' (toldS (repl (aroundL l p) (aroundL l p + 1) [openT t n]) (retErr l p t n)).sl ∧ (toldS (repl (aroundL l p) (aroundL l p + 1) [openT t n]) (retErr l p t n)).sl.length ≤ c') ∧ (retErr l p t n ≠ 0 → B' = none ∧ c' = 0)) :=
  (Retype_new h hr hlc hb).mono fun r w' ⟨B', c', h1, ⟨h2, h3⟩, h4⟩ => ⟨B', c', h1, ⟨Rp.row_fp h2 (fun _ _ => trivial), h3⟩, h4⟩
end Go.Proofs.YteeindicpbcjaaaGreatDoor
