/- nest.Outdent. (printed by gen/gen_nest.py) nest.Indent. (printed by gen/gen_nest.py) -/
import Derived.Test.YtfapglhdakhbeaaGreatDoorHeldZ
import Derived.Test.YtfapglhdakhbeaaGreatDoorNest
namespace Go.Proofs.YtfapglhdakhbeaaGreatDoor
open Go.RowKit
set_option linter.unusedVariables false
set_option linter.unusedSimpArgs false

theorem nrefused {s : StepD} {e pe : Int} {w w' : World} (he : e = pe) (hn : pe ≠ 0) (hp : Pure w w') : NTold s e w (.returned (.tuple #[step0, .int .i64 pe])) w' := by
  subst he
  refine ⟨none, 0, ⟨by rw [toldS_refused hn]; rfl, hp⟩, ⟨by rw [toldS_refused hn]; exact .inl rfl, by rw [toldS_refused hn]; exact Nat.zero_le _, fun _ => ⟨rfl, rfl⟩⟩, fun _ => ⟨rfl, rfl⟩⟩
set_option maxRecDepth 100000 in
set_option maxHeartbeats 4000000 in
theorem Partner_shut {F : Nat → Prop} {A : Option Addr} {c : Nat} {l : List Tok} {w : World} {i : Nat} {y : Tok} (hr : tokR.row w F A l) (hb : l.length ≤ 1048576 * 4) (hlc : l.length ≤ c) (hy : l[i]? = some y) (h2 : y.k = 2) :
    Calls Tryz.prog 108 #[.slice A l.length c, .int .i64 i] w fun e w' => e = .returned (.int .i64 (aroundL l i)) ∧ Pure w w' := by
  have hil : i < l.length := (List.getElem?_eq_some_iff.1 hy).1
  have HA := As.mk (around_calls (c := c) (at' := (i : Int)) hr hb hlc)
  obtain ⟨by', oy', rfl, _, hby, f0, f1, f2, f3⟩ := tok_at hr hy
  rw [h2] at f0
  have t1 : decide ((i : Int) < 0) = false := by simp
  have t2 : decide ((i : Int) ≥ (l.length : Int)) = false := by simp; omega
  have t6 : decide (l.length ≤ i) = false := by simp; omega
  clear hr hy h2
  go_enter Tryz.func108, Tryz.ntmps108
  go_wp2_with (go_at_call 77; refine HA.out.mono ?_; rintro r w1 ⟨rfl, hu⟩; have HU1 := As.mk hu; clear hu)
  go_ret
  exact ⟨rfl, HU1.out⟩
set_option maxRecDepth 100000 in
set_option maxHeartbeats 4000000 in
theorem Outdent_no {w : World} {F : Nat → Prop} {cb : Nat} {A : Option Addr} {c : Nat} {l : List Tok} {p pe x en li out pl po e : Int} {ok : Bool} {s' : StepD} (hrow : tokR.row w F A l) (hb : l.length ≤ 2048) (hen : -1 ≤ en ∧ en ≤ 3000)
    (hp : ∀ W, Pure w W → Calls Tryz.prog 110 #[deskV cb A l.length c, .int .i64 p] W (fun r w' => r = .returned (.int .i64 pe) ∧ Pure W w'))
    (hi : ∀ W, Pure w W → Calls Tryz.prog 111 #[deskV cb A l.length c, .int .i64 p] W (fun r w' => r = .returned (.tuple #[.int .i64 x, .int .i64 en, .int .i64 li, .bool ok]) ∧ Pure W w'))
    (ha : pe = 0 → ok = true → ∀ W, Pure w W → Calls Tryz.prog 77 #[.slice A l.length c, .int .i64 li] W (fun r w' => r = .returned (.int .i64 out) ∧ Pure W w'))
    (h1 : pe = 0 → ok = true → 0 ≤ out → ∀ W, Pure w W → Calls Tryz.prog 108 #[.slice A l.length c, .int .i64 li] W (fun r w' => r = .returned (.int .i64 pl) ∧ Pure W w'))
    (h2 : pe = 0 → ok = true → 0 ≤ out → ∀ W, Pure w W → Calls Tryz.prog 108 #[.slice A l.length c, .int .i64 out] W (fun r w' => r = .returned (.int .i64 po) ∧ Pure W w'))
    (hn : (pe ≠ 0 ∧ e = pe) ∨ (pe = 0 ∧ e = 6 ∧ ok = false) ∨ (pe = 0 ∧ e = 6 ∧ ok = true ∧ out < 0) ∨ (pe = 0 ∧ e = 6 ∧ ok = true ∧ ∃ (q : Nat) (y : Tok), out = q ∧ l[q]? = some y ∧ (y.t ≠ 6 ∨ (y.t = 6 ∧ pl ≠ en) ∨ (y.t = 6 ∧ pl = en ∧ po ≠ en + 1)))) :
    Calls Tryz.prog 55 #[.pointer (some ⟨cb, 0, none⟩), .slice A l.length c, .int .i64 p] w (NTold s' e w) := by
  have HP := As.mk hp
  have HI := As.mk hi
  have HR := As.mk hrow
  have hw1 : IntKind.i64.wrap (en + 1) = en + 1 := IntWalk.i64_in _ (by omega)
  clear hp hi hrow hen
  rcases hn with ⟨p0, he⟩ | ⟨rfl, he, rfl⟩ | ⟨rfl, he, rfl, o0⟩ | ⟨rfl, he, rfl, q, y, rfl, hy, hc⟩
  · have HE := As.mk he
    have HN := As.mk (show (pe : Int) ≠ 0 by assumption)
    have f0 : (pe != 0) = true := by simpa using p0
    clear p0 ha h1 h2
    clear he
    go_enter Tryz.func55, Tryz.ntmps55
    go_wp2_with (go_at_call 110; refine (HP.out _ ((Upd.alloc1 (fun _ => False) _ _).alloc _)).mono ?_; rintro r w1 ⟨rfl, hu⟩; obtain ⟨hb1, hb2, hu2⟩ := two_up hu; obtain ⟨q0, q1⟩ := cells2 hb2; have HB1 := As.mk hb1; have HQ1 := As.mk hb2; have HU1 := As.mk hu2; clear hu hb1 hb2 hu2; apply As.out)
    refine ⟨?_⟩
    have hbl : w.heap.size < w1.heap.size := lt_of_block HB1.out
    have hcf : ∀ i, w1.frozen? ⟨w.heap.size, i, none⟩ = false := fun i => by simp [World.frozen?, HB1.out]
    obtain ⟨k0, k1, k2, k3, k4, k5, k6, k7⟩ := cells8 HB1.out
    go_wp2
    exact bodyPost_ret (step_end (rb := w.heap.size) rfl _ rfl (set8 (rb := w.heap.size) HB1.out _ _ _ _ _ _ _ _)) rfl (nrefused HE.out HN.out (set8_pure HU1.out (Nat.le_refl _) _ _ _ _ _ _ _ _))
  · have HE := As.mk he
    have HN := As.mk (show (6 : Int) ≠ 0 by decide)
    clear ha h1 h2
    clear he
    go_enter Tryz.func55, Tryz.ntmps55
    go_wp2_with (first | (go_at_call 111; with_reducible refine (HI.out w1 HU1.out).mono ?_; rintro r w2 ⟨rfl, hu⟩; have HB2 := As.mk ((hu.block w.heap.size (lt_of_block HB1.out) (fun h => h)).trans HB1.out); have HQ2 := As.mk ((hu.block (w.heap.size + 1) (lt_of_block HQ1.out) (fun h => h)).trans HQ1.out); have q2 := cells2 HQ2.out; have HU2 := As.mk (HU1.out.trans hu (fun _ _ h => h)); clear hu; apply As.out) | (go_at_call 110; refine (HP.out _ ((Upd.alloc1 (fun _ => False) _ _).alloc _)).mono ?_; rintro r w1 ⟨rfl, hu⟩; obtain ⟨hb1, hb2, hu2⟩ := two_up hu; obtain ⟨q0, q1⟩ := cells2 hb2; have HB1 := As.mk hb1; have HQ1 := As.mk hb2; have HU1 := As.mk hu2; clear hu hb1 hb2 hu2))
    refine ⟨?_⟩
    have hbl : w.heap.size < w2.heap.size := lt_of_block HB2.out
    have hcf : ∀ i, w2.frozen? ⟨w.heap.size, i, none⟩ = false := fun i => by simp [World.frozen?, HB2.out]
    obtain ⟨k0, k1, k2, k3, k4, k5, k6, k7⟩ := cells8 HB2.out
    go_wp2
    exact bodyPost_ret (step_end (rb := w.heap.size) rfl _ rfl (set8 (rb := w.heap.size) HB2.out _ _ _ _ _ _ _ _)) rfl (nrefused HE.out HN.out (set8_pure HU2.out (Nat.le_refl _) _ _ _ _ _ _ _ _))
  · have HE := As.mk he
    have HN := As.mk (show (6 : Int) ≠ 0 by decide)
    have HA := As.mk (ha rfl rfl)
    have g0 : decide (out < 0) = true := by simpa using o0
    clear o0 ha h1 h2
    clear he
    go_enter Tryz.func55, Tryz.ntmps55
    go_wp2_with (first | (go_at_call 77; with_reducible refine (HA.out w2 HU2.out).mono ?_; rintro r w3 ⟨rfl, hu⟩; have HB3 := As.mk ((hu.block w.heap.size (lt_of_block HB2.out) (fun h => h)).trans HB2.out); have HQ3 := As.mk ((hu.block (w.heap.size + 1) (lt_of_block HQ2.out) (fun h => h)).trans HQ2.out); have q3 := cells2 HQ3.out; have HU3 := As.mk (HU2.out.trans hu (fun _ _ h => h)); clear hu; apply As.out) | (go_at_call 111; with_reducible refine (HI.out w1 HU1.out).mono ?_; rintro r w2 ⟨rfl, hu⟩; have HB2 := As.mk ((hu.block w.heap.size (lt_of_block HB1.out) (fun h => h)).trans HB1.out); have HQ2 := As.mk ((hu.block (w.heap.size + 1) (lt_of_block HQ1.out) (fun h => h)).trans HQ1.out); have q2 := cells2 HQ2.out; have HU2 := As.mk (HU1.out.trans hu (fun _ _ h => h)); clear hu) | (go_at_call 110; refine (HP.out _ ((Upd.alloc1 (fun _ => False) _ _).alloc _)).mono ?_; rintro r w1 ⟨rfl, hu⟩; obtain ⟨hb1, hb2, hu2⟩ := two_up hu; obtain ⟨q0, q1⟩ := cells2 hb2; have HB1 := As.mk hb1; have HQ1 := As.mk hb2; have HU1 := As.mk hu2; clear hu hb1 hb2 hu2))
    refine ⟨?_⟩
    have hbl : w.heap.size < w3.heap.size := lt_of_block HB3.out
    have hcf : ∀ i, w3.frozen? ⟨w.heap.size, i, none⟩ = false := fun i => by simp [World.frozen?, HB3.out]
    obtain ⟨k0, k1, k2, k3, k4, k5, k6, k7⟩ := cells8 HB3.out
    go_wp2
    exact bodyPost_ret (step_end (rb := w.heap.size) rfl _ rfl (set8 (rb := w.heap.size) HB3.out _ _ _ _ _ _ _ _)) rfl (nrefused HE.out HN.out (set8_pure HU3.out (Nat.le_refl _) _ _ _ _ _ _ _ _))
  · have HE := As.mk he
    have HA := As.mk (ha rfl rfl)
    have H1 := As.mk (h1 rfl rfl (by omega))
    have H2 := As.mk (h2 rfl rfl (by omega))
    have HN := As.mk (show (6 : Int) ≠ 0 by decide)
    have ql : q < l.length := (List.getElem?_eq_some_iff.1 hy).1
    obtain ⟨bA, oA, rfl, hF, hbA, c0, c1, c2, c3⟩ := tok_at HR.out hy
    have HBA := As.mk hbA
    have HC1 := As.mk c1
    have g0 : decide ((q : Int) < 0) = false := by simp
    clear he hy hF hbA c0 c1 c2 c3 ha h1 h2
    have X3 := fun (v : World) (hu : Pure w v) => (hu.cell HBA.out (fun h => h)).trans HC1.out
    have HX3 := As.mk X3
    clear X3
    rcases hc with hc | ⟨hc, h9⟩ | ⟨hc, h9, h8⟩
    · have f1 : (y.t != 6) = true := by simpa using hc
      clear hc
      go_enter Tryz.func55, Tryz.ntmps55
      go_wp2_with (first | (go_at_call 77; with_reducible refine (HA.out w2 HU2.out).mono ?_; rintro r w3 ⟨rfl, hu⟩; have HB3 := As.mk ((hu.block w.heap.size (lt_of_block HB2.out) (fun h => h)).trans HB2.out); have HQ3 := As.mk ((hu.block (w.heap.size + 1) (lt_of_block HQ2.out) (fun h => h)).trans HQ2.out); have q3 := cells2 HQ3.out; have HU3 := As.mk (HU2.out.trans hu (fun _ _ h => h)); clear hu; have c9 := HX3.out _ HU3.out; apply As.out) | (go_at_call 111; with_reducible refine (HI.out w1 HU1.out).mono ?_; rintro r w2 ⟨rfl, hu⟩; have HB2 := As.mk ((hu.block w.heap.size (lt_of_block HB1.out) (fun h => h)).trans HB1.out); have HQ2 := As.mk ((hu.block (w.heap.size + 1) (lt_of_block HQ1.out) (fun h => h)).trans HQ1.out); have q2 := cells2 HQ2.out; have HU2 := As.mk (HU1.out.trans hu (fun _ _ h => h)); clear hu) | (go_at_call 110; refine (HP.out _ ((Upd.alloc1 (fun _ => False) _ _).alloc _)).mono ?_; rintro r w1 ⟨rfl, hu⟩; obtain ⟨hb1, hb2, hu2⟩ := two_up hu; obtain ⟨q0, q1⟩ := cells2 hb2; have HB1 := As.mk hb1; have HQ1 := As.mk hb2; have HU1 := As.mk hu2; clear hu hb1 hb2 hu2))
      refine ⟨?_⟩
      have hbl : w.heap.size < w3.heap.size := lt_of_block HB3.out
      have hcf : ∀ i, w3.frozen? ⟨w.heap.size, i, none⟩ = false := fun i => by simp [World.frozen?, HB3.out]
      obtain ⟨k0, k1, k2, k3, k4, k5, k6, k7⟩ := cells8 HB3.out
      go_wp2
      exact bodyPost_ret (step_end (rb := w.heap.size) rfl _ rfl (set8 (rb := w.heap.size) HB3.out _ _ _ _ _ _ _ _)) rfl (nrefused HE.out HN.out (set8_pure HU3.out (Nat.le_refl _) _ _ _ _ _ _ _ _))
    · have f1 : (y.t != 6) = false := by simp [hc]
      have f2 : (pl != en) = true := by simpa using h9
      clear hc h9
      go_enter Tryz.func55, Tryz.ntmps55
      go_wp2_with (first | (go_at_call 108; with_reducible refine (H1.out w3 HU3.out).mono ?_; rintro r w4 ⟨rfl, hu⟩; have HB4 := As.mk ((hu.block w.heap.size (lt_of_block HB3.out) (fun h => h)).trans HB3.out); have HQ4 := As.mk ((hu.block (w.heap.size + 1) (lt_of_block HQ3.out) (fun h => h)).trans HQ3.out); have q4 := cells2 HQ4.out; have HU4 := As.mk (HU3.out.trans hu (fun _ _ h => h)); clear hu; apply As.out) | (go_at_call 77; with_reducible refine (HA.out w2 HU2.out).mono ?_; rintro r w3 ⟨rfl, hu⟩; have HB3 := As.mk ((hu.block w.heap.size (lt_of_block HB2.out) (fun h => h)).trans HB2.out); have HQ3 := As.mk ((hu.block (w.heap.size + 1) (lt_of_block HQ2.out) (fun h => h)).trans HQ2.out); have q3 := cells2 HQ3.out; have HU3 := As.mk (HU2.out.trans hu (fun _ _ h => h)); clear hu; have c9 := HX3.out _ HU3.out) | (go_at_call 111; with_reducible refine (HI.out w1 HU1.out).mono ?_; rintro r w2 ⟨rfl, hu⟩; have HB2 := As.mk ((hu.block w.heap.size (lt_of_block HB1.out) (fun h => h)).trans HB1.out); have HQ2 := As.mk ((hu.block (w.heap.size + 1) (lt_of_block HQ1.out) (fun h => h)).trans HQ1.out); have q2 := cells2 HQ2.out; have HU2 := As.mk (HU1.out.trans hu (fun _ _ h => h)); clear hu) | (go_at_call 110; refine (HP.out _ ((Upd.alloc1 (fun _ => False) _ _).alloc _)).mono ?_; rintro r w1 ⟨rfl, hu⟩; obtain ⟨hb1, hb2, hu2⟩ := two_up hu; obtain ⟨q0, q1⟩ := cells2 hb2; have HB1 := As.mk hb1; have HQ1 := As.mk hb2; have HU1 := As.mk hu2; clear hu hb1 hb2 hu2))
      refine ⟨?_⟩
      have hbl : w.heap.size < w4.heap.size := lt_of_block HB4.out
      have hcf : ∀ i, w4.frozen? ⟨w.heap.size, i, none⟩ = false := fun i => by simp [World.frozen?, HB4.out]
      obtain ⟨k0, k1, k2, k3, k4, k5, k6, k7⟩ := cells8 HB4.out
      go_wp2
      exact bodyPost_ret (step_end (rb := w.heap.size) rfl _ rfl (set8 (rb := w.heap.size) HB4.out _ _ _ _ _ _ _ _)) rfl (nrefused HE.out HN.out (set8_pure HU4.out (Nat.le_refl _) _ _ _ _ _ _ _ _))
    · have f1 : (y.t != 6) = false := by simp [hc]
      subst h9
      have f3 : (po != pl + 1) = true := by simpa using h8
      clear hc h8
      go_enter Tryz.func55, Tryz.ntmps55
      go_wp2_with (first | (go_at_call 108; with_reducible refine (H2.out w4 HU4.out).mono ?_; rintro r w5 ⟨rfl, hu⟩; have HB5 := As.mk ((hu.block w.heap.size (lt_of_block HB4.out) (fun h => h)).trans HB4.out); have HQ5 := As.mk ((hu.block (w.heap.size + 1) (lt_of_block HQ4.out) (fun h => h)).trans HQ4.out); have q5 := cells2 HQ5.out; have HU5 := As.mk (HU4.out.trans hu (fun _ _ h => h)); clear hu; apply As.out) | (go_at_call 108; with_reducible refine (H1.out w3 HU3.out).mono ?_; rintro r w4 ⟨rfl, hu⟩; have HB4 := As.mk ((hu.block w.heap.size (lt_of_block HB3.out) (fun h => h)).trans HB3.out); have HQ4 := As.mk ((hu.block (w.heap.size + 1) (lt_of_block HQ3.out) (fun h => h)).trans HQ3.out); have q4 := cells2 HQ4.out; have HU4 := As.mk (HU3.out.trans hu (fun _ _ h => h)); clear hu) | (go_at_call 77; with_reducible refine (HA.out w2 HU2.out).mono ?_; rintro r w3 ⟨rfl, hu⟩; have HB3 := As.mk ((hu.block w.heap.size (lt_of_block HB2.out) (fun h => h)).trans HB2.out); have HQ3 := As.mk ((hu.block (w.heap.size + 1) (lt_of_block HQ2.out) (fun h => h)).trans HQ2.out); have q3 := cells2 HQ3.out; have HU3 := As.mk (HU2.out.trans hu (fun _ _ h => h)); clear hu; have c9 := HX3.out _ HU3.out) | (go_at_call 111; with_reducible refine (HI.out w1 HU1.out).mono ?_; rintro r w2 ⟨rfl, hu⟩; have HB2 := As.mk ((hu.block w.heap.size (lt_of_block HB1.out) (fun h => h)).trans HB1.out); have HQ2 := As.mk ((hu.block (w.heap.size + 1) (lt_of_block HQ1.out) (fun h => h)).trans HQ1.out); have q2 := cells2 HQ2.out; have HU2 := As.mk (HU1.out.trans hu (fun _ _ h => h)); clear hu) | (go_at_call 110; refine (HP.out _ ((Upd.alloc1 (fun _ => False) _ _).alloc _)).mono ?_; rintro r w1 ⟨rfl, hu⟩; obtain ⟨hb1, hb2, hu2⟩ := two_up hu; obtain ⟨q0, q1⟩ := cells2 hb2; have HB1 := As.mk hb1; have HQ1 := As.mk hb2; have HU1 := As.mk hu2; clear hu hb1 hb2 hu2))
      refine ⟨?_⟩
      have hbl : w.heap.size < w5.heap.size := lt_of_block HB5.out
      have hcf : ∀ i, w5.frozen? ⟨w.heap.size, i, none⟩ = false := fun i => by simp [World.frozen?, HB5.out]
      obtain ⟨k0, k1, k2, k3, k4, k5, k6, k7⟩ := cells8 HB5.out
      go_wp2
      exact bodyPost_ret (step_end (rb := w.heap.size) rfl _ rfl (set8 (rb := w.heap.size) HB5.out _ _ _ _ _ _ _ _)) rfl (nrefused HE.out HN.out (set8_pure HU5.out (Nat.le_refl _) _ _ _ _ _ _ _ _))
set_option maxRecDepth 100000 in
set_option maxHeartbeats 4000000 in
theorem Outdent_a {w : World} {F : Nat → Prop} {cb : Nat} {A : Option Addr} {c : Nat} {l : List Tok} {p en pl po e : Int} {x li q : Nat} {y : Tok} (hrow : tokR.row w F A l) (hb : l.length ≤ 2048) (hen : 0 ≤ en ∧ en ≤ 3000) (hx : x < l.length)
    (hp : ∀ W, Pure w W → Calls Tryz.prog 110 #[deskV cb A l.length c, .int .i64 p] W (fun r w' => r = .returned (.int .i64 0) ∧ Pure W w'))
    (hi : ∀ W, Pure w W → Calls Tryz.prog 111 #[deskV cb A l.length c, .int .i64 p] W (fun r w' => r = .returned (.tuple #[.int .i64 (x : Nat), .int .i64 en, .int .i64 (li : Nat), .bool true]) ∧ Pure W w'))
    (ha : ∀ W, Pure w W → Calls Tryz.prog 77 #[.slice A l.length c, .int .i64 (li : Nat)] W (fun r w' => r = .returned (.int .i64 (q : Nat)) ∧ Pure W w'))
    (h1 : ∀ W, Pure w W → Calls Tryz.prog 108 #[.slice A l.length c, .int .i64 (li : Nat)] W (fun r w' => r = .returned (.int .i64 en) ∧ Pure W w'))
    (h2 : ∀ W, Pure w W → Calls Tryz.prog 108 #[.slice A l.length c, .int .i64 (q : Nat)] W (fun r w' => r = .returned (.int .i64 (en + 1)) ∧ Pure W w'))
    (hli : li < l.length) (hy : l[q]? = some y) (h6 : y.t = 6) (hc : x = li + 1)
    (ht : ∀ W T ct, Pure w W → tokR.row W (fun _ => True) T [shutT] → Calls Tryz.prog 113 #[deskV cb A l.length c, (arnd li (en + 2) x en 1 [shutT]).bare, .slice T 1 ct] W (NTold (arnd li (en + 2) x en 1 [shutT]) e W)) :
    Calls Tryz.prog 55 #[.pointer (some ⟨cb, 0, none⟩), .slice A l.length c, .int .i64 p] w (NTold (arnd li (en + 2) x en 1 [shutT]) e w) := by
  have HP := As.mk hp
  have HI := As.mk hi
  have HA := As.mk ha
  have H1 := As.mk h1
  have H2 := As.mk h2
  have HR := As.mk hrow
  have hw1 : IntKind.i64.wrap (en + 1) = en + 1 := IntWalk.i64_in _ (by omega)
  have hw2 : IntKind.i64.wrap (en + 2) = en + 2 := IntWalk.i64_in _ (by omega)
  have hw3 : IntKind.i64.wrap ((li : Int) + 1) = (li : Int) + 1 := IntWalk.i64_in _ (by omega)
  have ql : q < l.length := (List.getElem?_eq_some_iff.1 hy).1
  obtain ⟨bA, oA, rfl, hF, hbA, c0, c1, c2, c3⟩ := tok_at HR.out hy
  have HT := As.mk (fun W T ct => ht W T ct)
  have HX3 := As.mk (fun (v : World) (hu : Pure w v) => (hu.cell hbA (fun h => h)).trans c1)
  have g0 : decide ((q : Int) < 0) = false := by simp
  have f1 : (y.t != 6) = false := by simp [h6]
  have j1 : ((x : Int) == (li : Int) + 1) = true := by simp; omega
  clear hp hi ha h1 h2 hrow hen hy hF hbA c0 c1 c2 c3 h6 hc ht hx hli
  unfold NTold Told StepD.bare StepD.val at HT
  unfold arnd at HT
  simp only at HT
  go_enter Tryz.func55, Tryz.ntmps55
  go_wp2_with (first | (go_at_call 108; with_reducible refine (H2.out w4 HU4.out).mono ?_; rintro r w5 ⟨rfl, hu⟩; have HB5 := As.mk ((hu.block w.heap.size (lt_of_block HB4.out) (fun h => h)).trans HB4.out); have HQ5 := As.mk ((hu.block (w.heap.size + 1) (lt_of_block HQ4.out) (fun h => h)).trans HQ4.out); have q5 := cells2 HQ5.out; have HU5 := As.mk (HU4.out.trans hu (fun _ _ h => h)); clear hu; apply As.out) | (go_at_call 108; with_reducible refine (H1.out w3 HU3.out).mono ?_; rintro r w4 ⟨rfl, hu⟩; have HB4 := As.mk ((hu.block w.heap.size (lt_of_block HB3.out) (fun h => h)).trans HB3.out); have HQ4 := As.mk ((hu.block (w.heap.size + 1) (lt_of_block HQ3.out) (fun h => h)).trans HQ3.out); have q4 := cells2 HQ4.out; have HU4 := As.mk (HU3.out.trans hu (fun _ _ h => h)); clear hu) | (go_at_call 77; with_reducible refine (HA.out w2 HU2.out).mono ?_; rintro r w3 ⟨rfl, hu⟩; have HB3 := As.mk ((hu.block w.heap.size (lt_of_block HB2.out) (fun h => h)).trans HB2.out); have HQ3 := As.mk ((hu.block (w.heap.size + 1) (lt_of_block HQ2.out) (fun h => h)).trans HQ2.out); have q3 := cells2 HQ3.out; have HU3 := As.mk (HU2.out.trans hu (fun _ _ h => h)); clear hu; have c9 := HX3.out _ HU3.out) | (go_at_call 111; with_reducible refine (HI.out w1 HU1.out).mono ?_; rintro r w2 ⟨rfl, hu⟩; have HB2 := As.mk ((hu.block w.heap.size (lt_of_block HB1.out) (fun h => h)).trans HB1.out); have HQ2 := As.mk ((hu.block (w.heap.size + 1) (lt_of_block HQ1.out) (fun h => h)).trans HQ1.out); have q2 := cells2 HQ2.out; have HU2 := As.mk (HU1.out.trans hu (fun _ _ h => h)); clear hu) | (go_at_call 110; refine (HP.out _ ((Upd.alloc1 (fun _ => False) _ _).alloc _)).mono ?_; rintro r w1 ⟨rfl, hu⟩; obtain ⟨hb1, hb2, hu2⟩ := two_up hu; obtain ⟨q0, q1⟩ := cells2 hb2; have HB1 := As.mk hb1; have HQ1 := As.mk hb2; have HU1 := As.mk hu2; clear hu hb1 hb2 hu2))
  refine ⟨?_⟩
  obtain ⟨wo, rfl⟩ : ∃ wo : World, wo = w5 := ⟨_, rfl⟩
  have HBZ := HB5
  have HQZ := HQ5
  have HUZ := HU5
  have HK8 := As.mk (fun v (hu : Upd (fun k => k = w.heap.size) wo v) => cells2 ((hu.block (w.heap.size + 1) (lt_of_block HQZ.out) (by omega)).trans HQZ.out))
  have HPz := As.mk (show Pure wo wo.drew from (Upd.refl _ _).drew)
  go_wp2
  refine wp_region_T (P := Tryz.prog) (fun v => v.cell? ⟨w.heap.size + 1, 0, none⟩ = some (.pointer (some ⟨cb, 0, none⟩)) ∧ v.cell? ⟨w.heap.size + 1, 1, none⟩ = some (.slice (some ⟨bA, oA, none⟩) l.length c)) 13 (by kernel_rfl) ?_ (fun hHeld => ?_)
  · with_reducible (first | exact HK8.out _ (up1 HPz.out) | exact HK8.out _ (up1 HPa.out) | exact HK8.out _ (up1 HPb.out) | exact HK8.out _ (up1 (HPb.out.alloc _)) | exact HK8.out _ (up1 HP9.out) | exact HK8.out _ (set8_upd (up1 HP9.out) _ _ _ _ _ _ _ _))
  refine zT 0 ?_
  refine zT 1 ?_
  refine zT 2 ?_
  refine zT 3 ?_
  (try simp only [Act.put, List.setIfInBounds_toArray, List.set_cons_zero, List.set_cons_succ])
  refine zT 4 ?_
  refine zT 5 ?_
  refine oT 6 (fun K hK => ?_)
  go_simp
  (go_at_call 114; refine (nmove_calls _ _ _ _ _ _).mono ?_; rintro r wa ⟨rfl, hu⟩; have HPa := As.mk (HPz.out.trans hu (fun _ _ h => h)); clear hu)
  refine hK.out _ _ (fun _ => by with_reducible (first | exact HK8.out _ (up1 HPz.out) | exact HK8.out _ (up1 HPa.out) | exact HK8.out _ (up1 HPb.out) | exact HK8.out _ (up1 (HPb.out.alloc _)) | exact HK8.out _ (up1 HP9.out) | exact HK8.out _ (set8_upd (up1 HP9.out) _ _ _ _ _ _ _ _))) (fun hHeld => ?_)
  replace hHeld := hHeld (by decide)
  clear hK K
  (try simp only [Act.put, List.setIfInBounds_toArray, List.set_cons_zero, List.set_cons_succ])
  refine oT 7 (fun K hK => ?_)
  go_simp
  (go_at_call 112; refine (nshut_calls _).mono ?_; rintro r wb ⟨rfl, hu⟩; have HPb := As.mk (HPa.out.trans hu (fun _ _ h => h)); clear hu)
  refine hK.out _ _ (fun _ => by with_reducible (first | exact HK8.out _ (up1 HPz.out) | exact HK8.out _ (up1 HPa.out) | exact HK8.out _ (up1 HPb.out) | exact HK8.out _ (up1 (HPb.out.alloc _)) | exact HK8.out _ (up1 HP9.out) | exact HK8.out _ (set8_upd (up1 HP9.out) _ _ _ _ _ _ _ _))) (fun hHeld => ?_)
  replace hHeld := hHeld (by decide)
  clear hK K
  (try simp only [Act.put, List.setIfInBounds_toArray, List.set_cons_zero, List.set_cons_succ])
  refine oT 8 (fun K hK => ?_)
  go_simp
  refine hK.out _ _ (fun _ => by with_reducible (first | exact HK8.out _ (up1 HPz.out) | exact HK8.out _ (up1 HPa.out) | exact HK8.out _ (up1 HPb.out) | exact HK8.out _ (up1 (HPb.out.alloc _)) | exact HK8.out _ (up1 HP9.out) | exact HK8.out _ (set8_upd (up1 HP9.out) _ _ _ _ _ _ _ _))) (fun hHeld => ?_)
  replace hHeld := hHeld (by decide)
  clear hK K
  (try simp only [Act.put, List.setIfInBounds_toArray, List.set_cons_zero, List.set_cons_succ])
  refine oT 9 (fun K hK => ?_)
  go_simp
  (go_at_call 113; refine (HT.out (wb.alloc _) (some ⟨wb.heap.size, 0, none⟩) 1 ((HUZ.out.trans HPb.out (fun _ _ h => h)).alloc _) (row_toks (l := [shutT]) (heap_alloc_new wb _) trivial)).mono ?_; rintro r w9 ⟨B9, c9, ⟨rfl, hp9⟩, hr9, hn9⟩; have HV9 := As.mk (fun o => (HUZ.out.trans HPb.out (fun _ _ h => h)).alloc o); have HL9 := As.mk (show w.heap.size < wb.heap.size + 1 from by have h7 := HPb.out.size; have h8 := lt_of_block HBZ.out; omega); have HT9 := As.mk hp9; have HR9 := As.mk hr9; have HN9 := As.mk hn9; have HP9 := As.mk ((HPb.out.alloc _).trans hp9 (fun _ _ h => h)); have HB9 := As.mk ((HP9.out.block w.heap.size (lt_of_block HBZ.out) (fun h => h)).trans HBZ.out); have hbl9 : w.heap.size < w9.heap.size := lt_of_block HB9.out; have hcf9 : ∀ i, w9.frozen? ⟨w.heap.size, i, none⟩ = false := (fun i => by simp [World.frozen?, HB9.out]); obtain ⟨k0, k1, k2, k3, k4, k5, k6, k7⟩ := cells8 HB9.out; clear hp9 hr9 hn9)
  refine hK.out _ _ (fun _ => by with_reducible (first | exact HK8.out _ (up1 HPz.out) | exact HK8.out _ (up1 HPa.out) | exact HK8.out _ (up1 HPb.out) | exact HK8.out _ (up1 (HPb.out.alloc _)) | exact HK8.out _ (up1 HP9.out) | exact HK8.out _ (set8_upd (up1 HP9.out) _ _ _ _ _ _ _ _))) (fun hHeld => ?_)
  replace hHeld := hHeld (by decide)
  clear hK K
  (try simp only [Act.put, List.setIfInBounds_toArray, List.set_cons_zero, List.set_cons_succ])
  refine zT 10 ?_
  refine zT 11 ?_
  (try simp only [Act.put, List.setIfInBounds_toArray, List.set_cons_zero, List.set_cons_succ])
  refine oT 12 (fun K hK => ?_)
  go_simp
  refine hK.out _ _ (fun _ => by with_reducible (first | exact HK8.out _ (up1 HPz.out) | exact HK8.out _ (up1 HPa.out) | exact HK8.out _ (up1 HPb.out) | exact HK8.out _ (up1 (HPb.out.alloc _)) | exact HK8.out _ (up1 HP9.out) | exact HK8.out _ (set8_upd (up1 HP9.out) _ _ _ _ _ _ _ _))) (fun hHeld => ?_)
  replace hHeld := hHeld (by decide)
  clear hK K
  (try simp only [Act.put, List.setIfInBounds_toArray, List.set_cons_zero, List.set_cons_succ])
  refine oT 13 (fun K hK => ?_)
  go_simp
  refine hK.out _ _ (fun h => absurd rfl h) (fun hHeld => ?_)
  clear hK K
  (try simp only [Act.put, List.setIfInBounds_toArray, List.set_cons_zero, List.set_cons_succ])
  refine wpAnyT_done (by kernel_rfl) ?_ _
  go_wp2
  exact bodyPost_ret (step_end (rb := w.heap.size) rfl _ rfl (set8 (rb := w.heap.size) HB9.out _ _ _ _ _ _ _ _)) rfl ⟨B9, c9, ⟨rfl, set8_pure ((HV9.out _).trans HT9.out (fun _ _ h => h)) (Nat.le_refl _) _ _ _ _ _ _ _ _⟩, ⟨Rp.row_fp (Rp.row_upd HR9.out.1 (set8_upd (Upd.refl _ _) _ _ _ _ _ _ _ _) (fun k _ h e => by have h7 := HL9.out; simp at h; omega)) (fun k h => by have h7 := HL9.out; simp at h; omega), HR9.out.2⟩, HN9.out⟩
set_option maxRecDepth 100000 in
set_option maxHeartbeats 4000000 in
theorem Outdent_b {w : World} {F : Nat → Prop} {cb : Nat} {A : Option Addr} {c : Nat} {l : List Tok} {p en pl po e : Int} {x li q : Nat} {y : Tok} (hrow : tokR.row w F A l) (hb : l.length ≤ 2048) (hen : 0 ≤ en ∧ en ≤ 3000) (hx : x < l.length)
    (hp : ∀ W, Pure w W → Calls Tryz.prog 110 #[deskV cb A l.length c, .int .i64 p] W (fun r w' => r = .returned (.int .i64 0) ∧ Pure W w'))
    (hi : ∀ W, Pure w W → Calls Tryz.prog 111 #[deskV cb A l.length c, .int .i64 p] W (fun r w' => r = .returned (.tuple #[.int .i64 (x : Nat), .int .i64 en, .int .i64 (li : Nat), .bool true]) ∧ Pure W w'))
    (ha : ∀ W, Pure w W → Calls Tryz.prog 77 #[.slice A l.length c, .int .i64 (li : Nat)] W (fun r w' => r = .returned (.int .i64 (q : Nat)) ∧ Pure W w'))
    (h1 : ∀ W, Pure w W → Calls Tryz.prog 108 #[.slice A l.length c, .int .i64 (li : Nat)] W (fun r w' => r = .returned (.int .i64 en) ∧ Pure W w'))
    (h2 : ∀ W, Pure w W → Calls Tryz.prog 108 #[.slice A l.length c, .int .i64 (q : Nat)] W (fun r w' => r = .returned (.int .i64 (en + 1)) ∧ Pure W w'))
    (hli : li < l.length) (hy : l[q]? = some y) (h6 : y.t = 6) (hc : x ≠ li + 1)
    (ht : ∀ W T ct, Pure w W → tokR.row W (fun _ => True) T [shutT, shutT] → Calls Tryz.prog 113 #[deskV cb A l.length c, (arnd x (en + 2) x en 2 [shutT, shutT]).bare, .slice T 2 ct] W (NTold (arnd x (en + 2) x en 2 [shutT, shutT]) e W)) :
    Calls Tryz.prog 55 #[.pointer (some ⟨cb, 0, none⟩), .slice A l.length c, .int .i64 p] w (NTold (arnd x (en + 2) x en 2 [shutT, shutT]) e w) := by
  have HP := As.mk hp
  have HI := As.mk hi
  have HA := As.mk ha
  have H1 := As.mk h1
  have H2 := As.mk h2
  have HR := As.mk hrow
  have hw1 : IntKind.i64.wrap (en + 1) = en + 1 := IntWalk.i64_in _ (by omega)
  have hw2 : IntKind.i64.wrap (en + 2) = en + 2 := IntWalk.i64_in _ (by omega)
  have hw3 : IntKind.i64.wrap ((li : Int) + 1) = (li : Int) + 1 := IntWalk.i64_in _ (by omega)
  have ql : q < l.length := (List.getElem?_eq_some_iff.1 hy).1
  obtain ⟨bA, oA, rfl, hF, hbA, c0, c1, c2, c3⟩ := tok_at HR.out hy
  have HT := As.mk (fun W T ct => ht W T ct)
  have HX3 := As.mk (fun (v : World) (hu : Pure w v) => (hu.cell hbA (fun h => h)).trans c1)
  have g0 : decide ((q : Int) < 0) = false := by simp
  have f1 : (y.t != 6) = false := by simp [h6]
  have j1 : ((x : Int) == (li : Int) + 1) = false := by simp; omega
  clear hp hi ha h1 h2 hrow hen hy hF hbA c0 c1 c2 c3 h6 hc ht hx hli
  unfold NTold Told StepD.bare StepD.val at HT
  unfold arnd at HT
  simp only at HT
  go_enter Tryz.func55, Tryz.ntmps55
  go_wp2_with (first | (go_at_call 108; with_reducible refine (H2.out w4 HU4.out).mono ?_; rintro r w5 ⟨rfl, hu⟩; have HB5 := As.mk ((hu.block w.heap.size (lt_of_block HB4.out) (fun h => h)).trans HB4.out); have HQ5 := As.mk ((hu.block (w.heap.size + 1) (lt_of_block HQ4.out) (fun h => h)).trans HQ4.out); have q5 := cells2 HQ5.out; have HU5 := As.mk (HU4.out.trans hu (fun _ _ h => h)); clear hu; apply As.out) | (go_at_call 108; with_reducible refine (H1.out w3 HU3.out).mono ?_; rintro r w4 ⟨rfl, hu⟩; have HB4 := As.mk ((hu.block w.heap.size (lt_of_block HB3.out) (fun h => h)).trans HB3.out); have HQ4 := As.mk ((hu.block (w.heap.size + 1) (lt_of_block HQ3.out) (fun h => h)).trans HQ3.out); have q4 := cells2 HQ4.out; have HU4 := As.mk (HU3.out.trans hu (fun _ _ h => h)); clear hu) | (go_at_call 77; with_reducible refine (HA.out w2 HU2.out).mono ?_; rintro r w3 ⟨rfl, hu⟩; have HB3 := As.mk ((hu.block w.heap.size (lt_of_block HB2.out) (fun h => h)).trans HB2.out); have HQ3 := As.mk ((hu.block (w.heap.size + 1) (lt_of_block HQ2.out) (fun h => h)).trans HQ2.out); have q3 := cells2 HQ3.out; have HU3 := As.mk (HU2.out.trans hu (fun _ _ h => h)); clear hu; have c9 := HX3.out _ HU3.out) | (go_at_call 111; with_reducible refine (HI.out w1 HU1.out).mono ?_; rintro r w2 ⟨rfl, hu⟩; have HB2 := As.mk ((hu.block w.heap.size (lt_of_block HB1.out) (fun h => h)).trans HB1.out); have HQ2 := As.mk ((hu.block (w.heap.size + 1) (lt_of_block HQ1.out) (fun h => h)).trans HQ1.out); have q2 := cells2 HQ2.out; have HU2 := As.mk (HU1.out.trans hu (fun _ _ h => h)); clear hu) | (go_at_call 110; refine (HP.out _ ((Upd.alloc1 (fun _ => False) _ _).alloc _)).mono ?_; rintro r w1 ⟨rfl, hu⟩; obtain ⟨hb1, hb2, hu2⟩ := two_up hu; obtain ⟨q0, q1⟩ := cells2 hb2; have HB1 := As.mk hb1; have HQ1 := As.mk hb2; have HU1 := As.mk hu2; clear hu hb1 hb2 hu2))
  refine ⟨?_⟩
  obtain ⟨wo, rfl⟩ : ∃ wo : World, wo = w5 := ⟨_, rfl⟩
  have HBZ := HB5
  have HQZ := HQ5
  have HUZ := HU5
  have HK8 := As.mk (fun v (hu : Upd (fun k => k = w.heap.size) wo v) => cells2 ((hu.block (w.heap.size + 1) (lt_of_block HQZ.out) (by omega)).trans HQZ.out))
  have HPz := As.mk (show Pure wo wo.drew from (Upd.refl _ _).drew)
  go_wp2
  refine wp_region_T (P := Tryz.prog) (fun v => v.cell? ⟨w.heap.size + 1, 0, none⟩ = some (.pointer (some ⟨cb, 0, none⟩)) ∧ v.cell? ⟨w.heap.size + 1, 1, none⟩ = some (.slice (some ⟨bA, oA, none⟩) l.length c)) 14 (by kernel_rfl) ?_ (fun hHeld => ?_)
  · with_reducible (first | exact HK8.out _ (up1 HPz.out) | exact HK8.out _ (up1 HPa.out) | exact HK8.out _ (up1 HPb.out) | exact HK8.out _ (up1 HPc.out) | exact HK8.out _ (up1 (HPc.out.alloc _)) | exact HK8.out _ (up1 HP9.out) | exact HK8.out _ (set8_upd (up1 HP9.out) _ _ _ _ _ _ _ _))
  refine zT 0 ?_
  refine zT 1 ?_
  (try simp only [Act.put, List.setIfInBounds_toArray, List.set_cons_zero, List.set_cons_succ])
  refine zT 2 ?_
  refine zT 3 ?_
  refine zT 4 ?_
  refine zT 5 ?_
  (try simp only [Act.put, List.setIfInBounds_toArray, List.set_cons_zero, List.set_cons_succ])
  refine oT 6 (fun K hK => ?_)
  go_simp
  (go_at_call 114; refine (nmove_calls _ _ _ _ _ _).mono ?_; rintro r wa ⟨rfl, hu⟩; have HPa := As.mk (HPz.out.trans hu (fun _ _ h => h)); clear hu)
  refine hK.out _ _ (fun _ => by with_reducible (first | exact HK8.out _ (up1 HPz.out) | exact HK8.out _ (up1 HPa.out) | exact HK8.out _ (up1 HPb.out) | exact HK8.out _ (up1 HPc.out) | exact HK8.out _ (up1 (HPc.out.alloc _)) | exact HK8.out _ (up1 HP9.out) | exact HK8.out _ (set8_upd (up1 HP9.out) _ _ _ _ _ _ _ _))) (fun hHeld => ?_)
  replace hHeld := hHeld (by decide)
  clear hK K
  (try simp only [Act.put, List.setIfInBounds_toArray, List.set_cons_zero, List.set_cons_succ])
  refine oT 7 (fun K hK => ?_)
  go_simp
  (go_at_call 112; refine (nshut_calls _).mono ?_; rintro r wb ⟨rfl, hu⟩; have HPb := As.mk (HPa.out.trans hu (fun _ _ h => h)); clear hu)
  refine hK.out _ _ (fun _ => by with_reducible (first | exact HK8.out _ (up1 HPz.out) | exact HK8.out _ (up1 HPa.out) | exact HK8.out _ (up1 HPb.out) | exact HK8.out _ (up1 HPc.out) | exact HK8.out _ (up1 (HPc.out.alloc _)) | exact HK8.out _ (up1 HP9.out) | exact HK8.out _ (set8_upd (up1 HP9.out) _ _ _ _ _ _ _ _))) (fun hHeld => ?_)
  replace hHeld := hHeld (by decide)
  clear hK K
  (try simp only [Act.put, List.setIfInBounds_toArray, List.set_cons_zero, List.set_cons_succ])
  refine oT 8 (fun K hK => ?_)
  go_simp
  (go_at_call 112; refine (nshut_calls _).mono ?_; rintro r wc ⟨rfl, hu⟩; have HPc := As.mk (HPb.out.trans hu (fun _ _ h => h)); clear hu)
  refine hK.out _ _ (fun _ => by with_reducible (first | exact HK8.out _ (up1 HPz.out) | exact HK8.out _ (up1 HPa.out) | exact HK8.out _ (up1 HPb.out) | exact HK8.out _ (up1 HPc.out) | exact HK8.out _ (up1 (HPc.out.alloc _)) | exact HK8.out _ (up1 HP9.out) | exact HK8.out _ (set8_upd (up1 HP9.out) _ _ _ _ _ _ _ _))) (fun hHeld => ?_)
  replace hHeld := hHeld (by decide)
  clear hK K
  (try simp only [Act.put, List.setIfInBounds_toArray, List.set_cons_zero, List.set_cons_succ])
  refine oT 9 (fun K hK => ?_)
  go_simp
  refine hK.out _ _ (fun _ => by with_reducible (first | exact HK8.out _ (up1 HPz.out) | exact HK8.out _ (up1 HPa.out) | exact HK8.out _ (up1 HPb.out) | exact HK8.out _ (up1 HPc.out) | exact HK8.out _ (up1 (HPc.out.alloc _)) | exact HK8.out _ (up1 HP9.out) | exact HK8.out _ (set8_upd (up1 HP9.out) _ _ _ _ _ _ _ _))) (fun hHeld => ?_)
  replace hHeld := hHeld (by decide)
  clear hK K
  (try simp only [Act.put, List.setIfInBounds_toArray, List.set_cons_zero, List.set_cons_succ])
  refine oT 10 (fun K hK => ?_)
  go_simp
  (go_at_call 113; refine (HT.out (wc.alloc _) (some ⟨wc.heap.size, 0, none⟩) 2 ((HUZ.out.trans HPc.out (fun _ _ h => h)).alloc _) (row_toks (l := [shutT, shutT]) (heap_alloc_new wc _) trivial)).mono ?_; rintro r w9 ⟨B9, c9, ⟨rfl, hp9⟩, hr9, hn9⟩; have HV9 := As.mk (fun o => (HUZ.out.trans HPc.out (fun _ _ h => h)).alloc o); have HL9 := As.mk (show w.heap.size < wc.heap.size + 1 from by have h7 := HPc.out.size; have h8 := lt_of_block HBZ.out; omega); have HT9 := As.mk hp9; have HR9 := As.mk hr9; have HN9 := As.mk hn9; have HP9 := As.mk ((HPc.out.alloc _).trans hp9 (fun _ _ h => h)); have HB9 := As.mk ((HP9.out.block w.heap.size (lt_of_block HBZ.out) (fun h => h)).trans HBZ.out); have hbl9 : w.heap.size < w9.heap.size := lt_of_block HB9.out; have hcf9 : ∀ i, w9.frozen? ⟨w.heap.size, i, none⟩ = false := (fun i => by simp [World.frozen?, HB9.out]); obtain ⟨k0, k1, k2, k3, k4, k5, k6, k7⟩ := cells8 HB9.out; clear hp9 hr9 hn9)
  refine hK.out _ _ (fun _ => by with_reducible (first | exact HK8.out _ (up1 HPz.out) | exact HK8.out _ (up1 HPa.out) | exact HK8.out _ (up1 HPb.out) | exact HK8.out _ (up1 HPc.out) | exact HK8.out _ (up1 (HPc.out.alloc _)) | exact HK8.out _ (up1 HP9.out) | exact HK8.out _ (set8_upd (up1 HP9.out) _ _ _ _ _ _ _ _))) (fun hHeld => ?_)
  replace hHeld := hHeld (by decide)
  clear hK K
  (try simp only [Act.put, List.setIfInBounds_toArray, List.set_cons_zero, List.set_cons_succ])
  refine zT 11 ?_
  refine zT 12 ?_
  refine oT 13 (fun K hK => ?_)
  go_simp
  refine hK.out _ _ (fun _ => by with_reducible (first | exact HK8.out _ (up1 HPz.out) | exact HK8.out _ (up1 HPa.out) | exact HK8.out _ (up1 HPb.out) | exact HK8.out _ (up1 HPc.out) | exact HK8.out _ (up1 (HPc.out.alloc _)) | exact HK8.out _ (up1 HP9.out) | exact HK8.out _ (set8_upd (up1 HP9.out) _ _ _ _ _ _ _ _))) (fun hHeld => ?_)
  replace hHeld := hHeld (by decide)
  clear hK K
  (try simp only [Act.put, List.setIfInBounds_toArray, List.set_cons_zero, List.set_cons_succ])
  refine oT 14 (fun K hK => ?_)
  go_simp
  refine hK.out _ _ (fun h => absurd rfl h) (fun hHeld => ?_)
  clear hK K
  (try simp only [Act.put, List.setIfInBounds_toArray, List.set_cons_zero, List.set_cons_succ])
  refine wpAnyT_done (by kernel_rfl) ?_ _
  go_wp2
  exact bodyPost_ret (step_end (rb := w.heap.size) rfl _ rfl (set8 (rb := w.heap.size) HB9.out _ _ _ _ _ _ _ _)) rfl ⟨B9, c9, ⟨rfl, set8_pure ((HV9.out _).trans HT9.out (fun _ _ h => h)) (Nat.le_refl _) _ _ _ _ _ _ _ _⟩, ⟨Rp.row_fp (Rp.row_upd HR9.out.1 (set8_upd (Upd.refl _ _) _ _ _ _ _ _ _ _) (fun k _ h e => by have h7 := HL9.out; simp at h; omega)) (fun k h => by have h7 := HL9.out; simp at h; omega), HR9.out.2⟩, HN9.out⟩
end Go.Proofs.YtfapglhdakhbeaaGreatDoor
namespace Go.Proofs.YtfapglhdakhbeaaGreatDoor
open Go.RowKit
set_option linter.unusedVariables false
set_option linter.unusedSimpArgs false

set_option maxRecDepth 100000 in
set_option maxHeartbeats 4000000 in
theorem Indent_no {w : World} {F : Nat → Prop} {cb : Nat} {A : Option Addr} {c : Nat} {l : List Tok} {p pe en li e : Int} {x x1 : Nat} {ok : Bool} {s' : StepD} (hrow : tokR.row w F A l) (hb : l.length ≤ 2048)
    (hp : ∀ W, Pure w W → Calls Tryz.prog 110 #[deskV cb A l.length c, .int .i64 p] W (fun r w' => r = .returned (.int .i64 pe) ∧ Pure W w'))
    (hi : ∀ W, Pure w W → Calls Tryz.prog 111 #[deskV cb A l.length c, .int .i64 p] W (fun r w' => r = .returned (.tuple #[.int .i64 (x : Nat), .int .i64 en, .int .i64 li, .bool ok]) ∧ Pure W w'))
    (hn : (pe ≠ 0 ∧ e = pe) ∨ (pe = 0 ∧ e = 6 ∧ ok = false) ∨ (pe = 0 ∧ e = 6 ∧ ok = true ∧ x = x1 + 1 ∧ ∃ y : Tok, l[x1]? = some y ∧ y.k ≠ 2)) :
    Calls Tryz.prog 53 #[.pointer (some ⟨cb, 0, none⟩), .slice A l.length c, .int .i64 p] w (NTold s' e w) := by
  have HP := As.mk hp
  have HI := As.mk hi
  have HR := As.mk hrow
  clear hp hi hrow
  rcases hn with ⟨p0, he⟩ | ⟨rfl, he, rfl⟩ | ⟨rfl, he, rfl, rfl, y, hy, hk⟩
  · have HE := As.mk he
    have HN := As.mk (show (pe : Int) ≠ 0 by assumption)
    have f0 : (pe != 0) = true := by simpa using p0
    clear p0
    clear he
    go_enter Tryz.func53, Tryz.ntmps53
    go_wp2_with (go_at_call 110; refine (HP.out _ ((Upd.alloc1 (fun _ => False) _ _).alloc _)).mono ?_; rintro r w1 ⟨rfl, hu⟩; obtain ⟨hb1, hb2, hu2⟩ := two_up hu; obtain ⟨q0, q1⟩ := cells2 hb2; have HB1 := As.mk hb1; have HQ1 := As.mk hb2; have HU1 := As.mk hu2; clear hu hb1 hb2 hu2; apply As.out)
    refine ⟨?_⟩
    have hbl : w.heap.size < w1.heap.size := lt_of_block HB1.out
    have hcf : ∀ i, w1.frozen? ⟨w.heap.size, i, none⟩ = false := fun i => by simp [World.frozen?, HB1.out]
    obtain ⟨k0, k1, k2, k3, k4, k5, k6, k7⟩ := cells8 HB1.out
    go_wp2
    exact bodyPost_ret (step_end (rb := w.heap.size) rfl _ rfl (set8 (rb := w.heap.size) HB1.out _ _ _ _ _ _ _ _)) rfl (nrefused HE.out HN.out (set8_pure HU1.out (Nat.le_refl _) _ _ _ _ _ _ _ _))
  · have HE := As.mk he
    have HN := As.mk (show (6 : Int) ≠ 0 by decide)
    clear he
    go_enter Tryz.func53, Tryz.ntmps53
    go_wp2_with (first | (go_at_call 111; with_reducible refine (HI.out w1 HU1.out).mono ?_; rintro r w2 ⟨rfl, hu⟩; have HB2 := As.mk ((hu.block w.heap.size (lt_of_block HB1.out) (fun h => h)).trans HB1.out); have HQ2 := As.mk ((hu.block (w.heap.size + 1) (lt_of_block HQ1.out) (fun h => h)).trans HQ1.out); have q2 := cells2 HQ2.out; have HU2 := As.mk (HU1.out.trans hu (fun _ _ h => h)); clear hu) | (go_at_call 110; refine (HP.out _ ((Upd.alloc1 (fun _ => False) _ _).alloc _)).mono ?_; rintro r w1 ⟨rfl, hu⟩; obtain ⟨hb1, hb2, hu2⟩ := two_up hu; obtain ⟨q0, q1⟩ := cells2 hb2; have HB1 := As.mk hb1; have HQ1 := As.mk hb2; have HU1 := As.mk hu2; clear hu hb1 hb2 hu2))
    obtain ⟨wo, rfl⟩ : ∃ wo : World, wo = w2 := ⟨_, rfl⟩
    have HBZ := HB2
    have HUZ := HU2
    refine wp_region_held_drew (S := (fun _ => True)) (by kernel_rfl) ?_ (fun hHeld => ?_)
    · trivial
    refine zH 0 ?_
    refine zH 1 ?_
    refine zH 2 ?_
    (try simp only [Act.put, List.setIfInBounds_toArray, List.set_cons_zero, List.set_cons_succ])
    refine sH 3 ?_
    refine sH 4 ?_
    refine sH 5 ?_
    refine sH 6 ?_
    (try simp only [Act.put, List.setIfInBounds_toArray, List.set_cons_zero, List.set_cons_succ])
    refine sH 7 ?_
    refine sH 8 ?_
    refine sH 9 ?_
    refine zH 10 ?_
    (try simp only [Act.put, List.setIfInBounds_toArray, List.set_cons_zero, List.set_cons_succ])
    refine wpAnyH_done (by kernel_rfl) ?_ _
    have HBD := As.mk (show wo.drew.heap[w.heap.size]? = _ from HBZ.out)
    have HUD := As.mk HUZ.out.drew
    generalize wo.drew = wd at *
    have hbl : w.heap.size < wd.heap.size := lt_of_block HBD.out
    have hcf : ∀ i, wd.frozen? ⟨w.heap.size, i, none⟩ = false := fun i => by simp [World.frozen?, HBD.out]
    obtain ⟨k0, k1, k2, k3, k4, k5, k6, k7⟩ := cells8 HBD.out
    go_wp2
    exact bodyPost_ret (step_end (rb := w.heap.size) rfl _ rfl (set8 (rb := w.heap.size) HBD.out _ _ _ _ _ _ _ _)) rfl (nrefused HE.out HN.out (set8_pure HUD.out (Nat.le_refl _) _ _ _ _ _ _ _ _))
  · have HE := As.mk he
    have HN := As.mk (show (6 : Int) ≠ 0 by decide)
    have xl : x1 < l.length := (List.getElem?_eq_some_iff.1 hy).1
    have hw1 : IntKind.i64.wrap (((x1 + 1 : Nat) : Int) - 1) = (x1 : Int) := by rw [IntWalk.i64_in _ (by omega)]; omega
    have hw2 : IntKind.i64.wrap ((x1 : Int) + 1 - 1) = (x1 : Int) := by rw [IntWalk.i64_in _ (by omega)]; omega
    have hw3 : IntKind.i64.wrap (x1 : Int) = (x1 : Int) := IntWalk.i64_in _ (by omega)
    have ek : (y.k == 2) = false := by simpa using hk
    obtain ⟨bA, oA, rfl, hF, hbA, c0, c1, c2, c3⟩ := tok_at HR.out hy
    have HKX := As.mk (fun (v : World) (hu : Pure w v) => And.intro ((hu.cell hbA (fun h => h)).trans c0) (And.intro ((hu.cell hbA (fun h => h)).trans c1) (And.intro ((hu.cell hbA (fun h => h)).trans c2) ((hu.cell hbA (fun h => h)).trans c3))))
    clear he hy hk hF hbA c0 c1 c2 c3
    go_enter Tryz.func53, Tryz.ntmps53
    go_wp2_with (first | (go_at_call 111; with_reducible refine (HI.out w1 HU1.out).mono ?_; rintro r w2 ⟨rfl, hu⟩; have HB2 := As.mk ((hu.block w.heap.size (lt_of_block HB1.out) (fun h => h)).trans HB1.out); have HQ2 := As.mk ((hu.block (w.heap.size + 1) (lt_of_block HQ1.out) (fun h => h)).trans HQ1.out); have q2 := cells2 HQ2.out; have HU2 := As.mk (HU1.out.trans hu (fun _ _ h => h)); clear hu) | (go_at_call 110; refine (HP.out _ ((Upd.alloc1 (fun _ => False) _ _).alloc _)).mono ?_; rintro r w1 ⟨rfl, hu⟩; obtain ⟨hb1, hb2, hu2⟩ := two_up hu; obtain ⟨q0, q1⟩ := cells2 hb2; have HB1 := As.mk hb1; have HQ1 := As.mk hb2; have HU1 := As.mk hu2; clear hu hb1 hb2 hu2))
    obtain ⟨wo, rfl⟩ : ∃ wo : World, wo = w2 := ⟨_, rfl⟩
    have HBZ := HB2
    have HUZ := HU2
    have HP0 := As.mk (show Pure wo wo.drew from (Upd.refl _ _).drew)
    refine wp_region_held_drew (S := (fun v => v.cell? ⟨bA, oA + x1 * 4, none⟩ = some (.int .i64 y.k) ∧ v.cell? ⟨bA, oA + x1 * 4 + 1, none⟩ = some (.int .i64 y.t) ∧ v.cell? ⟨bA, oA + x1 * 4 + 2, none⟩ = some (.int .i64 y.n) ∧ v.cell? ⟨bA, oA + x1 * 4 + 3, none⟩ = some (.int .i64 y.m))) (by kernel_rfl) ?_ (fun hHeld => ?_)
    · with_reducible (first | exact HKX.out _ HUZ.out.drew | exact HKX.out _ (HUZ.out.trans HP3.out (fun _ _ h => h)))
    refine zH 0 ?_
    refine zH 1 ?_
    refine zH 2 ?_
    refine zH 3 ?_
    (try simp only [Act.put, List.setIfInBounds_toArray, List.set_cons_zero, List.set_cons_succ])
    refine zH 4 ?_
    refine zH 5 ?_
    refine zH 6 ?_
    refine zH 7 ?_
    (try simp only [Act.put, List.setIfInBounds_toArray, List.set_cons_zero, List.set_cons_succ])
    refine wpAnyH_ready (rs := [8]) (by kernel_rfl) (by simp) (AllReadyH.cons (o := { dst := (some 41), op := (Go.Op.call { callee := (Go.Callee.value (Go.Operand.func 112)), args := #[], argTypes := #[] }), type := 71, pos := "nest.go:139", after := #[{ on := 2, ground := Go.Ground.chain }, { on := 2, ground := Go.Ground.guard }], guard := (some (2, false)) }) rfl (fun K hK => ?_) AllReadyH.nil)
    go_simp
    (go_at_call 112; refine (nshut_calls _).mono ?_; rintro r w3 ⟨rfl, hu⟩; have HP3 := As.mk (HP0.out.trans hu (fun _ _ h => h)); have HB3 := As.mk ((HP3.out.block w.heap.size (lt_of_block HBZ.out) (fun h => h)).trans HBZ.out); have HU3 := As.mk (HUZ.out.trans HP3.out (fun _ _ h => h)); clear hu)
    refine hK.out _ _ (by with_reducible (first | exact HKX.out _ HUZ.out.drew | exact HKX.out _ (HUZ.out.trans HP3.out (fun _ _ h => h)))) (fun hHeld => ?_)
    clear hK K
    (try simp only [Act.put, List.setIfInBounds_toArray, List.set_cons_zero, List.set_cons_succ])
    refine zH 9 ?_
    refine zH 10 ?_
    refine wpAnyH_done (by kernel_rfl) ?_ _
    have hbl : w.heap.size < w3.heap.size := lt_of_block HB3.out
    have hcf : ∀ i, w3.frozen? ⟨w.heap.size, i, none⟩ = false := fun i => by simp [World.frozen?, HB3.out]
    obtain ⟨k0, k1, k2, k3, k4, k5, k6, k7⟩ := cells8 HB3.out
    go_wp2
    exact bodyPost_ret (step_end (rb := w.heap.size) rfl _ rfl (set8 (rb := w.heap.size) HB3.out _ _ _ _ _ _ _ _)) rfl (nrefused HE.out HN.out (set8_pure HU3.out (Nat.le_refl _) _ _ _ _ _ _ _ _))
set_option maxRecDepth 100000 in
set_option maxHeartbeats 4000000 in
theorem Indent_a {w : World} {F : Nat → Prop} {cb : Nat} {A : Option Addr} {c : Nat} {l : List Tok} {p en e : Int} {x2 pp li : Nat} {yl : Tok} (hrow : tokR.row w F A l) (hb : l.length ≤ 2048)
    (hp : ∀ W, Pure w W → Calls Tryz.prog 110 #[deskV cb A l.length c, .int .i64 p] W (fun r w' => r = .returned (.int .i64 0) ∧ Pure W w'))
    (hi : ∀ W, Pure w W → Calls Tryz.prog 111 #[deskV cb A l.length c, .int .i64 p] W (fun r w' => r = .returned (.tuple #[.int .i64 ((x2 + 2 : Nat) : Int), .int .i64 en, .int .i64 (li : Nat), .bool true]) ∧ Pure W w'))
    (h1 : ∀ W, Pure w W → Calls Tryz.prog 108 #[.slice A l.length c, .int .i64 (x2 : Nat)] W (fun r w' => r = .returned (.int .i64 (pp : Nat)) ∧ Pure W w'))
    (hyl : l[li]? = some yl) (hk : yl.k = 1) (hx1 : l[x2 + 1]? = some shutT) (hx2 : l[x2]? = some shutT) (hpp : l[pp]? = some yl)
    (ht : ∀ W T ct, Pure w W → tokR.row W (fun _ => True) T [shutT, shutT] → Calls Tryz.prog 113 #[deskV cb A l.length c, (arnd ((x2 : Int)) en ((x2 + 2 : Nat) : Int) en 0 [shutT, shutT]).bare, .slice T 2 ct] W (NTold (arnd ((x2 : Int)) en ((x2 + 2 : Nat) : Int) en 0 [shutT, shutT]) e W)) :
    Calls Tryz.prog 53 #[.pointer (some ⟨cb, 0, none⟩), .slice A l.length c, .int .i64 p] w (NTold (arnd ((x2 : Int)) en ((x2 + 2 : Nat) : Int) en 0 [shutT, shutT]) e w) := by
  have HP := As.mk hp
  have HI := As.mk hi
  have HR := As.mk hrow
  have HYK := As.mk hk
  clear hk
  have H1 := As.mk h1
  have xl : x2 + 1 < l.length := (List.getElem?_eq_some_iff.1 hx1).1
  have ll : li < l.length := (List.getElem?_eq_some_iff.1 hyl).1
  have pl : pp < l.length := (List.getElem?_eq_some_iff.1 hpp).1
  have hw1 : IntKind.i64.wrap (((x2 + 2 : Nat) : Int) - 1) = ((x2 + 1 : Nat) : Int) := by rw [IntWalk.i64_in _ (by omega)]; omega
  have hw2 : IntKind.i64.wrap (((x2 + 2 : Nat) : Int) - 2) = (x2 : Int) := by rw [IntWalk.i64_in _ (by omega)]; omega
  have hw3 : IntKind.i64.wrap ((x2 : Int) + 2 - 1) = ((x2 + 1 : Nat) : Int) := by rw [IntWalk.i64_in _ (by omega)]; omega
  have hw4 : IntKind.i64.wrap ((x2 : Int) + 2 - 2) = (x2 : Int) := by rw [IntWalk.i64_in _ (by omega)]; omega
  have xl2 : x2 < l.length := by omega
  have i1 : (x2 : Int) + 1 < (l.length : Int) := by omega
  have i2 : (0 : Int) ≤ (x2 : Int) + 1 := by omega
  have hw5 : IntKind.i64.wrap ((x2 : Int) + 1) = (x2 : Int) + 1 := IntWalk.i64_in _ (by omega)
  have hw6 : IntKind.i64.wrap (x2 : Int) = (x2 : Int) := IntWalk.i64_in _ (by omega)
  obtain ⟨bA, oA, rfl, hF, hbA, c0, c1, c2, c3⟩ := tok_at HR.out hx1
  obtain ⟨b2, o2, hA2, _, _, d0, d1, d2, d3⟩ := tok_at HR.out hx2
  obtain ⟨b3, o3, hA3, _, _, e0, e1, e2, e3⟩ := tok_at HR.out hpp
  obtain ⟨b4, o4, hA4, _, _, f0, f1, f2, f3⟩ := tok_at HR.out hyl
  simp only [Option.some.injEq, Addr.mk.injEq, and_true] at hA2 hA3 hA4
  obtain ⟨rfl, rfl⟩ := hA2
  obtain ⟨rfl, rfl⟩ := hA3
  obtain ⟨rfl, rfl⟩ := hA4
  have HKX := As.mk (fun (v : World) (hu : Pure w v) => (by
    have hh : ∀ k, v.cell? ⟨bA, k, none⟩ = w.cell? ⟨bA, k, none⟩ := fun k => hu.cell hbA (fun h => h)
    exact ⟨(hh _).trans c0, (hh _).trans c1, (hh _).trans c2, (hh _).trans c3⟩ : (fun v => v.cell? ⟨bA, oA + (x2 + 1) * 4, none⟩ = some (.int .i64 2) ∧ v.cell? ⟨bA, oA + (x2 + 1) * 4 + 1, none⟩ = some (.int .i64 0) ∧ v.cell? ⟨bA, oA + (x2 + 1) * 4 + 2, none⟩ = some (.int .i64 0) ∧ v.cell? ⟨bA, oA + (x2 + 1) * 4 + 3, none⟩ = some (.int .i64 0)) v))
  have HKY := As.mk (fun (v : World) (hu : Pure w v) => (by
    have hh : ∀ k, v.cell? ⟨bA, k, none⟩ = w.cell? ⟨bA, k, none⟩ := fun k => hu.cell hbA (fun h => h)
    exact ⟨(hh _).trans d0, (hh _).trans d1, (hh _).trans d2, (hh _).trans d3, (hh _).trans e0, (hh _).trans e1, (hh _).trans e2, (hh _).trans e3, (hh _).trans f0, (hh _).trans f1, (hh _).trans f2, (hh _).trans f3⟩ : (fun v => v.cell? ⟨bA, oA + x2 * 4, none⟩ = some (.int .i64 2) ∧ v.cell? ⟨bA, oA + x2 * 4 + 1, none⟩ = some (.int .i64 0) ∧ v.cell? ⟨bA, oA + x2 * 4 + 2, none⟩ = some (.int .i64 0) ∧ v.cell? ⟨bA, oA + x2 * 4 + 3, none⟩ = some (.int .i64 0) ∧ v.cell? ⟨bA, oA + pp * 4, none⟩ = some (.int .i64 yl.k) ∧ v.cell? ⟨bA, oA + pp * 4 + 1, none⟩ = some (.int .i64 yl.t) ∧ v.cell? ⟨bA, oA + pp * 4 + 2, none⟩ = some (.int .i64 yl.n) ∧ v.cell? ⟨bA, oA + pp * 4 + 3, none⟩ = some (.int .i64 yl.m) ∧ v.cell? ⟨bA, oA + li * 4, none⟩ = some (.int .i64 yl.k) ∧ v.cell? ⟨bA, oA + li * 4 + 1, none⟩ = some (.int .i64 yl.t) ∧ v.cell? ⟨bA, oA + li * 4 + 2, none⟩ = some (.int .i64 yl.n) ∧ v.cell? ⟨bA, oA + li * 4 + 3, none⟩ = some (.int .i64 yl.m)) v))
  clear hx1 hx2 hpp hyl hF hbA c0 c1 c2 c3 d0 d1 d2 d3 e0 e1 e2 e3 f0 f1 f2 f3
  have HT := As.mk (fun W T ct => ht W T ct)
  clear hp hi hrow ht h1
  unfold NTold Told StepD.bare StepD.val at HT
  unfold arnd at HT
  simp only at HT
  go_enter Tryz.func53, Tryz.ntmps53
  go_wp2_with (first | (go_at_call 111; with_reducible refine (HI.out w1 HU1.out).mono ?_; rintro r w2 ⟨rfl, hu⟩; have HB2 := As.mk ((hu.block w.heap.size (lt_of_block HB1.out) (fun h => h)).trans HB1.out); have HQ2 := As.mk ((hu.block (w.heap.size + 1) (lt_of_block HQ1.out) (fun h => h)).trans HQ1.out); have q2 := cells2 HQ2.out; have HU2 := As.mk (HU1.out.trans hu (fun _ _ h => h)); clear hu) | (go_at_call 110; refine (HP.out _ ((Upd.alloc1 (fun _ => False) _ _).alloc _)).mono ?_; rintro r w1 ⟨rfl, hu⟩; obtain ⟨hb1, hb2, hu2⟩ := two_up hu; obtain ⟨q0, q1⟩ := cells2 hb2; have HB1 := As.mk hb1; have HQ1 := As.mk hb2; have HU1 := As.mk hu2; clear hu hb1 hb2 hu2))
  obtain ⟨wo, rfl⟩ : ∃ wo : World, wo = w2 := ⟨_, rfl⟩
  have HBY := HB2
  have HQY := HQ2
  have HUY := HU2
  have HP0 := As.mk (show Pure wo wo.drew from (Upd.refl _ _).drew)
  refine wp_region_held_drew (S := (fun v => v.cell? ⟨bA, oA + (x2 + 1) * 4, none⟩ = some (.int .i64 2) ∧ v.cell? ⟨bA, oA + (x2 + 1) * 4 + 1, none⟩ = some (.int .i64 0) ∧ v.cell? ⟨bA, oA + (x2 + 1) * 4 + 2, none⟩ = some (.int .i64 0) ∧ v.cell? ⟨bA, oA + (x2 + 1) * 4 + 3, none⟩ = some (.int .i64 0))) (by kernel_rfl) ?_ (fun hHeld => ?_)
  · with_reducible (first | exact HKX.out _ HUY.out.drew | exact HKX.out _ HU3.out)
  refine zH 0 ?_
  (try simp only [Act.put, List.setIfInBounds_toArray, List.set_cons_zero, List.set_cons_succ])
  refine zH 1 ?_
  refine zH 2 ?_
  refine zH 3 ?_
  refine zH 4 ?_
  (try simp only [Act.put, List.setIfInBounds_toArray, List.set_cons_zero, List.set_cons_succ])
  refine zH 5 ?_
  refine zH 6 ?_
  refine zH 7 ?_
  refine wpAnyH_ready (rs := [8]) (by kernel_rfl) (by simp) (AllReadyH.cons (o := { dst := (some 41), op := (Go.Op.call { callee := (Go.Callee.value (Go.Operand.func 112)), args := #[], argTypes := #[] }), type := 71, pos := "nest.go:139", after := #[{ on := 2, ground := Go.Ground.chain }, { on := 2, ground := Go.Ground.guard }], guard := (some (2, false)) }) rfl (fun K hK => ?_) AllReadyH.nil)
  go_simp
  (go_at_call 112; refine (nshut_calls _).mono ?_; rintro r w3 ⟨rfl, hu⟩; have HP3 := As.mk (HP0.out.trans hu (fun _ _ h => h)); have HB3 := As.mk ((HP3.out.block w.heap.size (lt_of_block HBY.out) (fun h => h)).trans HBY.out); have HQ3 := As.mk ((HP3.out.block (w.heap.size + 1) (lt_of_block HQY.out) (fun h => h)).trans HQY.out); have HU3 := As.mk (HUY.out.trans HP3.out (fun _ _ h => h)); clear hu)
  refine hK.out _ _ (by with_reducible (first | exact HKX.out _ HUY.out.drew | exact HKX.out _ HU3.out)) (fun hHeld => ?_)
  clear hK K
  (try simp only [Act.put, List.setIfInBounds_toArray, List.set_cons_zero, List.set_cons_succ])
  refine zH 9 ?_
  refine zH 10 ?_
  refine wpAnyH_done (by kernel_rfl) ?_ _
  go_wp2
  have HP30 := As.mk (show Pure w3 w3.drew from (Upd.refl _ _).drew)
  refine wp_region_held_drew (S := (fun v => v.cell? ⟨bA, oA + x2 * 4, none⟩ = some (.int .i64 2) ∧ v.cell? ⟨bA, oA + x2 * 4 + 1, none⟩ = some (.int .i64 0) ∧ v.cell? ⟨bA, oA + x2 * 4 + 2, none⟩ = some (.int .i64 0) ∧ v.cell? ⟨bA, oA + x2 * 4 + 3, none⟩ = some (.int .i64 0) ∧ v.cell? ⟨bA, oA + pp * 4, none⟩ = some (.int .i64 yl.k) ∧ v.cell? ⟨bA, oA + pp * 4 + 1, none⟩ = some (.int .i64 yl.t) ∧ v.cell? ⟨bA, oA + pp * 4 + 2, none⟩ = some (.int .i64 yl.n) ∧ v.cell? ⟨bA, oA + pp * 4 + 3, none⟩ = some (.int .i64 yl.m) ∧ v.cell? ⟨bA, oA + li * 4, none⟩ = some (.int .i64 yl.k) ∧ v.cell? ⟨bA, oA + li * 4 + 1, none⟩ = some (.int .i64 yl.t) ∧ v.cell? ⟨bA, oA + li * 4 + 2, none⟩ = some (.int .i64 yl.n) ∧ v.cell? ⟨bA, oA + li * 4 + 3, none⟩ = some (.int .i64 yl.m))) (by kernel_rfl) ?_ (fun hHeld => ?_)
  · with_reducible (first | exact HKY.out _ HU3.out.drew | exact HKY.out _ HU4.out | exact HKY.out _ HU5.out)
  refine zH 0 ?_
  refine zH 1 ?_
  (try simp only [Act.put, List.setIfInBounds_toArray, List.set_cons_zero, List.set_cons_succ])
  refine zH 2 ?_
  refine zH 3 ?_
  refine zH 4 ?_
  refine zH 5 ?_
  (try simp only [Act.put, List.setIfInBounds_toArray, List.set_cons_zero, List.set_cons_succ])
  refine zH 6 ?_
  refine wpAnyH_ready (rs := [7]) (by kernel_rfl) (by simp) (AllReadyH.cons (o := { dst := (some 54), op := (Go.Op.call { callee := (Go.Callee.value (Go.Operand.func 112)), args := #[], argTypes := #[] }), type := 71, pos := "nest.go:142", after := #[{ on := 2, ground := Go.Ground.chain }, { on := 2, ground := Go.Ground.guard }], guard := (some (2, true)) }) rfl (fun K hK => ?_) AllReadyH.nil)
  go_simp
  (first | (go_at_call 108; refine (H1.out w4 HU4.out).mono ?_; rintro r w5 ⟨rfl, hu⟩; have HP5 := As.mk hu; have HB5 := As.mk ((HP5.out.block w.heap.size (lt_of_block HB4.out) (fun h => h)).trans HB4.out); have HQ5 := As.mk ((HP5.out.block (w.heap.size + 1) (lt_of_block HQ4.out) (fun h => h)).trans HQ4.out); have HU5 := As.mk (HU4.out.trans HP5.out (fun _ _ h => h)); clear hu) | (go_at_call 112; refine (nshut_calls _).mono ?_; rintro r w4 ⟨rfl, hu⟩; have HP4 := As.mk (HP30.out.trans hu (fun _ _ h => h)); have HB4 := As.mk ((HP4.out.block w.heap.size (lt_of_block HB3.out) (fun h => h)).trans HB3.out); have HQ4 := As.mk ((HP4.out.block (w.heap.size + 1) (lt_of_block HQ3.out) (fun h => h)).trans HQ3.out); have HU4 := As.mk (HU3.out.trans HP4.out (fun _ _ h => h)); clear hu))
  refine hK.out _ _ (by with_reducible (first | exact HKY.out _ HU3.out.drew | exact HKY.out _ HU4.out | exact HKY.out _ HU5.out)) (fun hHeld => ?_)
  clear hK K
  (try simp only [Act.put, List.setIfInBounds_toArray, List.set_cons_zero, List.set_cons_succ])
  refine zH 8 ?_
  refine zH 9 ?_
  (try simp only [Act.put, List.setIfInBounds_toArray, List.set_cons_zero, List.set_cons_succ])
  refine zH 10 ?_
  refine zH 11 ?_
  refine zH 12 ?_
  refine zH 13 ?_
  (try simp only [Act.put, List.setIfInBounds_toArray, List.set_cons_zero, List.set_cons_succ])
  refine zH 17 ?_
  refine zH 18 ?_
  refine zH 19 ?_
  refine zH 20 ?_
  (try simp only [Act.put, List.setIfInBounds_toArray, List.set_cons_zero, List.set_cons_succ])
  refine wpAnyH_ready (rs := [14]) (by kernel_rfl) (by simp) (AllReadyH.cons (o := { dst := (some 61), op := (Go.Op.call { callee := (Go.Callee.value (Go.Operand.func 108)), args := #[(Go.Operand.tmp 59), (Go.Operand.tmp 60)], argTypes := #[22, 3] }), type := 3, pos := "nest.go:142", after := #[{ on := 12, ground := Go.Ground.data }, { on := 13, ground := Go.Ground.data }, { on := 10, ground := Go.Ground.chain }, { on := 10, ground := Go.Ground.guard }], guard := (some (10, true)) }) rfl (fun K hK => ?_) AllReadyH.nil)
  go_simp
  (first | (go_at_call 108; refine (H1.out w4 HU4.out).mono ?_; rintro r w5 ⟨rfl, hu⟩; have HP5 := As.mk hu; have HB5 := As.mk ((HP5.out.block w.heap.size (lt_of_block HB4.out) (fun h => h)).trans HB4.out); have HQ5 := As.mk ((HP5.out.block (w.heap.size + 1) (lt_of_block HQ4.out) (fun h => h)).trans HQ4.out); have HU5 := As.mk (HU4.out.trans HP5.out (fun _ _ h => h)); clear hu) | (go_at_call 112; refine (nshut_calls _).mono ?_; rintro r w4 ⟨rfl, hu⟩; have HP4 := As.mk (HP30.out.trans hu (fun _ _ h => h)); have HB4 := As.mk ((HP4.out.block w.heap.size (lt_of_block HB3.out) (fun h => h)).trans HB3.out); have HQ4 := As.mk ((HP4.out.block (w.heap.size + 1) (lt_of_block HQ3.out) (fun h => h)).trans HQ3.out); have HU4 := As.mk (HU3.out.trans HP4.out (fun _ _ h => h)); clear hu))
  refine hK.out _ _ (by with_reducible (first | exact HKY.out _ HU3.out.drew | exact HKY.out _ HU4.out | exact HKY.out _ HU5.out)) (fun hHeld => ?_)
  clear hK K
  (try simp only [Act.put, List.setIfInBounds_toArray, List.set_cons_zero, List.set_cons_succ])
  refine zH 15 ?_
  refine zH 16 ?_
  refine zH 21 ?_
  (try simp only [Act.put, List.setIfInBounds_toArray, List.set_cons_zero, List.set_cons_succ])
  refine zH 22 ?_
  refine wpAnyH_done (by kernel_rfl) ?_ _
  obtain ⟨wz, rfl⟩ : ∃ wz : World, wz = w5 := ⟨_, rfl⟩
  have HBZ := HB5
  have HQZ := HQ5
  have HUZ := HU5
  have HK8 := As.mk (fun v (hu : Upd (fun k => k = w.heap.size) wz v) => cells2 ((hu.block (w.heap.size + 1) (lt_of_block HQZ.out) (by omega)).trans HQZ.out))
  have HPz := As.mk (show Pure wz wz.drew from (Upd.refl _ _).drew)
  go_wp2
  refine wp_region_T (P := Tryz.prog) (fun v => v.cell? ⟨w.heap.size + 1, 0, none⟩ = some (.pointer (some ⟨cb, 0, none⟩)) ∧ v.cell? ⟨w.heap.size + 1, 1, none⟩ = some (.slice (some ⟨bA, oA, none⟩) l.length c)) 13 (by kernel_rfl) ?_ (fun hHeld => ?_)
  · with_reducible (first | exact HK8.out _ (up1 HPz.out) | exact HK8.out _ (up1 HPa.out) | exact HK8.out _ (up1 HPb.out) | exact HK8.out _ (up1 HPc.out) | exact HK8.out _ (up1 (HPc.out.alloc _)) | exact HK8.out _ (up1 HP9.out) | exact HK8.out _ (set8_upd (up1 HP9.out) _ _ _ _ _ _ _ _))
  refine zT 0 ?_
  refine zT 1 ?_
  refine zT 2 ?_
  (try simp only [Act.put, List.setIfInBounds_toArray, List.set_cons_zero, List.set_cons_succ])
  refine zT 3 ?_
  refine zT 4 ?_
  refine oT 5 (fun K hK => ?_)
  go_simp
  (go_at_call 114; refine (nmove_calls _ _ _ _ _ _).mono ?_; rintro r wa ⟨rfl, hu⟩; have HPa := As.mk (HPz.out.trans hu (fun _ _ h => h)); clear hu)
  refine hK.out _ _ (fun _ => by with_reducible (first | exact HK8.out _ (up1 HPz.out) | exact HK8.out _ (up1 HPa.out) | exact HK8.out _ (up1 HPb.out) | exact HK8.out _ (up1 HPc.out) | exact HK8.out _ (up1 (HPc.out.alloc _)) | exact HK8.out _ (up1 HP9.out) | exact HK8.out _ (set8_upd (up1 HP9.out) _ _ _ _ _ _ _ _))) (fun hHeld => ?_)
  replace hHeld := hHeld (by decide)
  clear hK K
  (try simp only [Act.put, List.setIfInBounds_toArray, List.set_cons_zero, List.set_cons_succ])
  refine oT 6 (fun K hK => ?_)
  go_simp
  (go_at_call 112; refine (nshut_calls _).mono ?_; rintro r wb ⟨rfl, hu⟩; have HPb := As.mk (HPa.out.trans hu (fun _ _ h => h)); clear hu)
  refine hK.out _ _ (fun _ => by with_reducible (first | exact HK8.out _ (up1 HPz.out) | exact HK8.out _ (up1 HPa.out) | exact HK8.out _ (up1 HPb.out) | exact HK8.out _ (up1 HPc.out) | exact HK8.out _ (up1 (HPc.out.alloc _)) | exact HK8.out _ (up1 HP9.out) | exact HK8.out _ (set8_upd (up1 HP9.out) _ _ _ _ _ _ _ _))) (fun hHeld => ?_)
  replace hHeld := hHeld (by decide)
  clear hK K
  (try simp only [Act.put, List.setIfInBounds_toArray, List.set_cons_zero, List.set_cons_succ])
  refine oT 7 (fun K hK => ?_)
  go_simp
  (go_at_call 112; refine (nshut_calls _).mono ?_; rintro r wc ⟨rfl, hu⟩; have HPc := As.mk (HPb.out.trans hu (fun _ _ h => h)); clear hu)
  refine hK.out _ _ (fun _ => by with_reducible (first | exact HK8.out _ (up1 HPz.out) | exact HK8.out _ (up1 HPa.out) | exact HK8.out _ (up1 HPb.out) | exact HK8.out _ (up1 HPc.out) | exact HK8.out _ (up1 (HPc.out.alloc _)) | exact HK8.out _ (up1 HP9.out) | exact HK8.out _ (set8_upd (up1 HP9.out) _ _ _ _ _ _ _ _))) (fun hHeld => ?_)
  replace hHeld := hHeld (by decide)
  clear hK K
  (try simp only [Act.put, List.setIfInBounds_toArray, List.set_cons_zero, List.set_cons_succ])
  refine oT 8 (fun K hK => ?_)
  go_simp
  refine hK.out _ _ (fun _ => by with_reducible (first | exact HK8.out _ (up1 HPz.out) | exact HK8.out _ (up1 HPa.out) | exact HK8.out _ (up1 HPb.out) | exact HK8.out _ (up1 HPc.out) | exact HK8.out _ (up1 (HPc.out.alloc _)) | exact HK8.out _ (up1 HP9.out) | exact HK8.out _ (set8_upd (up1 HP9.out) _ _ _ _ _ _ _ _))) (fun hHeld => ?_)
  replace hHeld := hHeld (by decide)
  clear hK K
  (try simp only [Act.put, List.setIfInBounds_toArray, List.set_cons_zero, List.set_cons_succ])
  refine oT 9 (fun K hK => ?_)
  go_simp
  (go_at_call 113; refine (HT.out (wc.alloc _) (some ⟨wc.heap.size, 0, none⟩) 2 ((HUZ.out.trans HPc.out (fun _ _ h => h)).alloc _) (row_toks (l := [shutT, shutT]) (heap_alloc_new wc _) trivial)).mono ?_; rintro r w9 ⟨B9, c9, ⟨rfl, hp9⟩, hr9, hn9⟩; have HV9 := As.mk (fun o => (HUZ.out.trans HPc.out (fun _ _ h => h)).alloc o); have HL9 := As.mk (show w.heap.size < wc.heap.size + 1 from by have h7 := HPc.out.size; have h8 := lt_of_block HBZ.out; omega); have HT9 := As.mk hp9; have HR9 := As.mk hr9; have HN9 := As.mk hn9; have HP9 := As.mk ((HPc.out.alloc _).trans hp9 (fun _ _ h => h)); have HB9 := As.mk ((HP9.out.block w.heap.size (lt_of_block HBZ.out) (fun h => h)).trans HBZ.out); have hbl9 : w.heap.size < w9.heap.size := lt_of_block HB9.out; have hcf9 : ∀ i, w9.frozen? ⟨w.heap.size, i, none⟩ = false := (fun i => by simp [World.frozen?, HB9.out]); obtain ⟨k0, k1, k2, k3, k4, k5, k6, k7⟩ := cells8 HB9.out; clear hp9 hr9 hn9)
  refine hK.out _ _ (fun _ => by with_reducible (first | exact HK8.out _ (up1 HPz.out) | exact HK8.out _ (up1 HPa.out) | exact HK8.out _ (up1 HPb.out) | exact HK8.out _ (up1 HPc.out) | exact HK8.out _ (up1 (HPc.out.alloc _)) | exact HK8.out _ (up1 HP9.out) | exact HK8.out _ (set8_upd (up1 HP9.out) _ _ _ _ _ _ _ _))) (fun hHeld => ?_)
  replace hHeld := hHeld (by decide)
  clear hK K
  (try simp only [Act.put, List.setIfInBounds_toArray, List.set_cons_zero, List.set_cons_succ])
  refine zT 10 ?_
  (try simp only [Act.put, List.setIfInBounds_toArray, List.set_cons_zero, List.set_cons_succ])
  refine zT 11 ?_
  refine oT 12 (fun K hK => ?_)
  go_simp
  refine hK.out _ _ (fun _ => by with_reducible (first | exact HK8.out _ (up1 HPz.out) | exact HK8.out _ (up1 HPa.out) | exact HK8.out _ (up1 HPb.out) | exact HK8.out _ (up1 HPc.out) | exact HK8.out _ (up1 (HPc.out.alloc _)) | exact HK8.out _ (up1 HP9.out) | exact HK8.out _ (set8_upd (up1 HP9.out) _ _ _ _ _ _ _ _))) (fun hHeld => ?_)
  replace hHeld := hHeld (by decide)
  clear hK K
  (try simp only [Act.put, List.setIfInBounds_toArray, List.set_cons_zero, List.set_cons_succ])
  refine oT 13 (fun K hK => ?_)
  go_simp
  refine hK.out _ _ (fun h => absurd rfl h) (fun hHeld => ?_)
  clear hK K
  (try simp only [Act.put, List.setIfInBounds_toArray, List.set_cons_zero, List.set_cons_succ])
  refine wpAnyT_done (by kernel_rfl) ?_ _
  go_wp2
  exact bodyPost_ret (step_end (rb := w.heap.size) rfl _ rfl (set8 (rb := w.heap.size) HB9.out _ _ _ _ _ _ _ _)) rfl ⟨B9, c9, ⟨rfl, set8_pure ((HV9.out _).trans HT9.out (fun _ _ h => h)) (Nat.le_refl _) _ _ _ _ _ _ _ _⟩, ⟨Rp.row_fp (Rp.row_upd HR9.out.1 (set8_upd (Upd.refl _ _) _ _ _ _ _ _ _ _) (fun k _ h e => by have h7 := HL9.out; simp at h; omega)) (fun k h => by have h7 := HL9.out; simp at h; omega), HR9.out.2⟩, HN9.out⟩
set_option maxRecDepth 100000 in
set_option maxHeartbeats 4000000 in
theorem Indent_b {w : World} {F : Nat → Prop} {cb : Nat} {A : Option Addr} {c : Nat} {l : List Tok} {p en e : Int} {x1 li : Nat} {yl : Tok} (hrow : tokR.row w F A l) (hb : l.length ≤ 2048)
    (hp : ∀ W, Pure w W → Calls Tryz.prog 110 #[deskV cb A l.length c, .int .i64 p] W (fun r w' => r = .returned (.int .i64 0) ∧ Pure W w'))
    (hi : ∀ W, Pure w W → Calls Tryz.prog 111 #[deskV cb A l.length c, .int .i64 p] W (fun r w' => r = .returned (.tuple #[.int .i64 ((x1 + 1 : Nat) : Int), .int .i64 en, .int .i64 (li : Nat), .bool true]) ∧ Pure W w'))
    (hyl : l[li]? = some yl) (hk : yl.k = 1) (hx1 : l[x1]? = some shutT) (hc : x1 = 0 ∨ ∃ (x2 : Nat) (y : Tok), x1 = x2 + 1 ∧ l[x2]? = some y ∧ (y.k ≠ 2 ∨ (y = shutT ∧ ∃ (pp : Nat) (z : Tok), l[pp]? = some z ∧ z.k = 1 ∧ (∀ W, Pure w W → Calls Tryz.prog 108 #[.slice A l.length c, .int .i64 (x2 : Nat)] W (fun r w' => r = .returned (.int .i64 (pp : Nat)) ∧ Pure W w')) ∧ (z.t ≠ yl.t ∨ (z.t = yl.t ∧ z.n ≠ yl.n)))))
    (ht : ∀ W T ct, Pure w W → tokR.row W (fun _ => True) T [yl, shutT, shutT] → Calls Tryz.prog 113 #[deskV cb A l.length c, (arnd ((x1 : Nat) : Int) en ((x1 + 1 : Nat) : Int) en 1 [yl, shutT, shutT]).bare, .slice T 3 ct] W (NTold (arnd ((x1 : Nat) : Int) en ((x1 + 1 : Nat) : Int) en 1 [yl, shutT, shutT]) e W)) :
    Calls Tryz.prog 53 #[.pointer (some ⟨cb, 0, none⟩), .slice A l.length c, .int .i64 p] w (NTold (arnd ((x1 : Nat) : Int) en ((x1 + 1 : Nat) : Int) en 1 [yl, shutT, shutT]) e w) := by
  have HP := As.mk hp
  have HI := As.mk hi
  have HR := As.mk hrow
  have HYK := As.mk hk
  clear hk
  have xl : x1 < l.length := (List.getElem?_eq_some_iff.1 hx1).1
  have ll : li < l.length := (List.getElem?_eq_some_iff.1 hyl).1
  have hw1 : IntKind.i64.wrap (((x1 + 1 : Nat) : Int) - 1) = ((x1 : Nat) : Int) := by rw [IntWalk.i64_in _ (by omega)]; omega
  have hw2 : IntKind.i64.wrap (((x1 : Nat) : Int) + 1 - 1) = ((x1 : Nat) : Int) := by rw [IntWalk.i64_in _ (by omega)]; omega
  have hw5 : IntKind.i64.wrap (x1 : Int) = (x1 : Int) := IntWalk.i64_in _ (by omega)
  obtain ⟨bA, oA, rfl, hF, hbA, c0, c1, c2, c3⟩ := tok_at HR.out hx1
  obtain ⟨b4, o4, hA4, _, _, f0, f1, f2, f3⟩ := tok_at HR.out hyl
  simp only [Option.some.injEq, Addr.mk.injEq, and_true] at hA4
  obtain ⟨rfl, rfl⟩ := hA4
  have HBA := As.mk hbA
  have HKX := As.mk (fun (v : World) (hu : Pure w v) => (by
    have hh : ∀ k, v.cell? ⟨bA, k, none⟩ = w.cell? ⟨bA, k, none⟩ := fun k => hu.cell hbA (fun h => h)
    exact ⟨(hh _).trans c0, (hh _).trans c1, (hh _).trans c2, (hh _).trans c3⟩ : (fun v => v.cell? ⟨bA, oA + x1 * 4, none⟩ = some (.int .i64 2) ∧ v.cell? ⟨bA, oA + x1 * 4 + 1, none⟩ = some (.int .i64 0) ∧ v.cell? ⟨bA, oA + x1 * 4 + 2, none⟩ = some (.int .i64 0) ∧ v.cell? ⟨bA, oA + x1 * 4 + 3, none⟩ = some (.int .i64 0)) v))
  have HKL := As.mk (fun (v : World) (hu : Pure w v) => (by
    have hh : ∀ k, v.cell? ⟨bA, k, none⟩ = w.cell? ⟨bA, k, none⟩ := fun k => hu.cell hbA (fun h => h)
    exact ⟨(hh _).trans f0, (hh _).trans f1, (hh _).trans f2, (hh _).trans f3⟩ : (fun v => v.cell? ⟨bA, oA + li * 4, none⟩ = some (.int .i64 yl.k) ∧ v.cell? ⟨bA, oA + li * 4 + 1, none⟩ = some (.int .i64 yl.t) ∧ v.cell? ⟨bA, oA + li * 4 + 2, none⟩ = some (.int .i64 yl.n) ∧ v.cell? ⟨bA, oA + li * 4 + 3, none⟩ = some (.int .i64 yl.m)) v))
  clear hx1 hyl hF hbA c0 c1 c2 c3 f0 f1 f2 f3
  have HT := As.mk (fun W T ct => ht W T ct)
  clear hp hi hrow ht
  unfold NTold Told StepD.bare StepD.val at HT
  unfold arnd at HT
  simp only at HT
  rcases hc with hx0 | ⟨x2, y, hx12, hy, hc⟩
  · have hw3 : IntKind.i64.wrap (((x1 + 1 : Nat) : Int) - 2) = -1 := by rw [IntWalk.i64_in _ (by omega)]; omega
    have hw4 : IntKind.i64.wrap (((x1 : Nat) : Int) + 1 - 2) = -1 := by rw [IntWalk.i64_in _ (by omega)]; omega
    have hw6 : IntKind.i64.wrap ((x1 : Int) - 1) = -1 := by rw [IntWalk.i64_in _ (by omega)]; omega
    clear hx0
    go_enter Tryz.func53, Tryz.ntmps53
    go_wp2_with (first | (go_at_call 111; with_reducible refine (HI.out w1 HU1.out).mono ?_; rintro r w2 ⟨rfl, hu⟩; have HB2 := As.mk ((hu.block w.heap.size (lt_of_block HB1.out) (fun h => h)).trans HB1.out); have HQ2 := As.mk ((hu.block (w.heap.size + 1) (lt_of_block HQ1.out) (fun h => h)).trans HQ1.out); have q2 := cells2 HQ2.out; have HU2 := As.mk (HU1.out.trans hu (fun _ _ h => h)); clear hu) | (go_at_call 110; refine (HP.out _ ((Upd.alloc1 (fun _ => False) _ _).alloc _)).mono ?_; rintro r w1 ⟨rfl, hu⟩; obtain ⟨hb1, hb2, hu2⟩ := two_up hu; obtain ⟨q0, q1⟩ := cells2 hb2; have HB1 := As.mk hb1; have HQ1 := As.mk hb2; have HU1 := As.mk hu2; clear hu hb1 hb2 hu2))
    obtain ⟨wo, rfl⟩ : ∃ wo : World, wo = w2 := ⟨_, rfl⟩
    have HBY := HB2
    have HQY := HQ2
    have HUY := HU2
    have HP0 := As.mk (show Pure wo wo.drew from (Upd.refl _ _).drew)
    refine wp_region_held_drew (S := (fun v => v.cell? ⟨bA, oA + x1 * 4, none⟩ = some (.int .i64 2) ∧ v.cell? ⟨bA, oA + x1 * 4 + 1, none⟩ = some (.int .i64 0) ∧ v.cell? ⟨bA, oA + x1 * 4 + 2, none⟩ = some (.int .i64 0) ∧ v.cell? ⟨bA, oA + x1 * 4 + 3, none⟩ = some (.int .i64 0))) (by kernel_rfl) ?_ (fun hHeld => ?_)
    · with_reducible (first | exact HKX.out _ HUY.out.drew | exact HKX.out _ HU3.out)
    refine zH 0 ?_
    (try simp only [Act.put, List.setIfInBounds_toArray, List.set_cons_zero, List.set_cons_succ])
    refine zH 1 ?_
    refine zH 2 ?_
    refine zH 3 ?_
    refine zH 4 ?_
    (try simp only [Act.put, List.setIfInBounds_toArray, List.set_cons_zero, List.set_cons_succ])
    refine zH 5 ?_
    refine zH 6 ?_
    refine zH 7 ?_
    refine wpAnyH_ready (rs := [8]) (by kernel_rfl) (by simp) (AllReadyH.cons (o := { dst := (some 41), op := (Go.Op.call { callee := (Go.Callee.value (Go.Operand.func 112)), args := #[], argTypes := #[] }), type := 71, pos := "nest.go:139", after := #[{ on := 2, ground := Go.Ground.chain }, { on := 2, ground := Go.Ground.guard }], guard := (some (2, false)) }) rfl (fun K hK => ?_) AllReadyH.nil)
    go_simp
    (go_at_call 112; refine (nshut_calls _).mono ?_; rintro r w3 ⟨rfl, hu⟩; have HP3 := As.mk (HP0.out.trans hu (fun _ _ h => h)); have HB3 := As.mk ((HP3.out.block w.heap.size (lt_of_block HBY.out) (fun h => h)).trans HBY.out); have HQ3 := As.mk ((HP3.out.block (w.heap.size + 1) (lt_of_block HQY.out) (fun h => h)).trans HQY.out); have HU3 := As.mk (HUY.out.trans HP3.out (fun _ _ h => h)); clear hu)
    refine hK.out _ _ (by with_reducible (first | exact HKX.out _ HUY.out.drew | exact HKX.out _ HU3.out)) (fun hHeld => ?_)
    clear hK K
    (try simp only [Act.put, List.setIfInBounds_toArray, List.set_cons_zero, List.set_cons_succ])
    refine zH 9 ?_
    refine zH 10 ?_
    refine wpAnyH_done (by kernel_rfl) ?_ _
    go_wp2
    have HP30 := As.mk (show Pure w3 w3.drew from (Upd.refl _ _).drew)
    refine wp_region_held_drew (S := (fun _ => True)) (by kernel_rfl) ?_ (fun hHeld => ?_)
    · trivial
    refine zH 0 ?_
    refine zH 1 ?_
    (try simp only [Act.put, List.setIfInBounds_toArray, List.set_cons_zero, List.set_cons_succ])
    refine zH 2 ?_
    refine sH 3 ?_
    refine sH 4 ?_
    refine sH 5 ?_
    (try simp only [Act.put, List.setIfInBounds_toArray, List.set_cons_zero, List.set_cons_succ])
    refine sH 6 ?_
    refine sH 7 ?_
    refine sH 8 ?_
    refine zH 9 ?_
    (try simp only [Act.put, List.setIfInBounds_toArray, List.set_cons_zero, List.set_cons_succ])
    refine zH 10 ?_
    refine sH 11 ?_
    refine sH 12 ?_
    refine sH 13 ?_
    (try simp only [Act.put, List.setIfInBounds_toArray, List.set_cons_zero, List.set_cons_succ])
    refine sH 14 ?_
    refine sH 15 ?_
    refine sH 16 ?_
    refine sH 17 ?_
    (try simp only [Act.put, List.setIfInBounds_toArray, List.set_cons_zero, List.set_cons_succ])
    refine sH 18 ?_
    refine sH 19 ?_
    refine sH 20 ?_
    refine sH 21 ?_
    (try simp only [Act.put, List.setIfInBounds_toArray, List.set_cons_zero, List.set_cons_succ])
    refine zH 22 ?_
    refine wpAnyH_done (by kernel_rfl) ?_ _
    have HBZ := As.mk (show w3.drew.heap[w.heap.size]? = _ from HB3.out)
    have HQZ := As.mk (show w3.drew.heap[w.heap.size + 1]? = _ from HQ3.out)
    have HUZ := As.mk HU3.out.drew
    generalize w3.drew = wz at *
    have HK8 := As.mk (fun v (hu : Upd (fun k => k = w.heap.size) wz v) => cells2 ((hu.block (w.heap.size + 1) (lt_of_block HQZ.out) (by omega)).trans HQZ.out))
    have HPz := As.mk (show Pure wz wz.drew from (Upd.refl _ _).drew)
    go_wp2
    have HK9 := As.mk (fun v (hu : Upd (fun k => k = w.heap.size) wz v) => (by obtain ⟨d0, d1⟩ := HK8.out v hu; obtain ⟨g0, g1, g2, g3⟩ := HKL.out wz HUZ.out; have hb9 : bA < wz.heap.size := Nat.lt_of_lt_of_le HBA.out HUZ.out.size; have hne : bA ≠ w.heap.size := (by have := HBA.out; omega); have hh : ∀ k, v.cell? ⟨bA, k, none⟩ = wz.cell? ⟨bA, k, none⟩ := (fun k => hu.cell hb9 hne); exact ⟨d0, d1, (hh _).trans g0, (hh _).trans g1, (hh _).trans g2, (hh _).trans g3⟩ : (fun v => v.cell? ⟨w.heap.size + 1, 0, none⟩ = some (.pointer (some ⟨cb, 0, none⟩)) ∧ v.cell? ⟨w.heap.size + 1, 1, none⟩ = some (.slice (some ⟨bA, oA, none⟩) l.length c) ∧ v.cell? ⟨bA, oA + li * 4, none⟩ = some (.int .i64 yl.k) ∧ v.cell? ⟨bA, oA + li * 4 + 1, none⟩ = some (.int .i64 yl.t) ∧ v.cell? ⟨bA, oA + li * 4 + 2, none⟩ = some (.int .i64 yl.n) ∧ v.cell? ⟨bA, oA + li * 4 + 3, none⟩ = some (.int .i64 yl.m)) v))
    refine wp_region_T (P := Tryz.prog) (fun v => v.cell? ⟨w.heap.size + 1, 0, none⟩ = some (.pointer (some ⟨cb, 0, none⟩)) ∧ v.cell? ⟨w.heap.size + 1, 1, none⟩ = some (.slice (some ⟨bA, oA, none⟩) l.length c) ∧ v.cell? ⟨bA, oA + li * 4, none⟩ = some (.int .i64 yl.k) ∧ v.cell? ⟨bA, oA + li * 4 + 1, none⟩ = some (.int .i64 yl.t) ∧ v.cell? ⟨bA, oA + li * 4 + 2, none⟩ = some (.int .i64 yl.n) ∧ v.cell? ⟨bA, oA + li * 4 + 3, none⟩ = some (.int .i64 yl.m)) 18 (by kernel_rfl) ?_ (fun hHeld => ?_)
    · with_reducible (first | exact HK9.out _ (up1 HPz.out) | exact HK9.out _ (up1 HPa.out) | exact HK9.out _ (up1 HPb.out) | exact HK9.out _ (up1 HPc.out) | exact HK9.out _ (up1 (HPc.out.alloc _)) | exact HK9.out _ (up1 HP9.out) | exact HK9.out _ (set8_upd (up1 HP9.out) _ _ _ _ _ _ _ _))
    refine zT 0 ?_
    refine zT 1 ?_
    refine zT 2 ?_
    (try simp only [Act.put, List.setIfInBounds_toArray, List.set_cons_zero, List.set_cons_succ])
    refine zT 3 ?_
    refine zT 4 ?_
    refine zT 5 ?_
    refine zT 7 ?_
    (try simp only [Act.put, List.setIfInBounds_toArray, List.set_cons_zero, List.set_cons_succ])
    refine zT 8 ?_
    refine zT 9 ?_
    refine zT 10 ?_
    refine oT 6 (fun K hK => ?_)
    go_simp
    (go_at_call 114; refine (nmove_calls _ _ _ _ _ _).mono ?_; rintro r wa ⟨rfl, hu⟩; have HPa := As.mk (HPz.out.trans hu (fun _ _ h => h)); clear hu)
    refine hK.out _ _ (fun _ => by with_reducible (first | exact HK9.out _ (up1 HPz.out) | exact HK9.out _ (up1 HPa.out) | exact HK9.out _ (up1 HPb.out) | exact HK9.out _ (up1 HPc.out) | exact HK9.out _ (up1 (HPc.out.alloc _)) | exact HK9.out _ (up1 HP9.out) | exact HK9.out _ (set8_upd (up1 HP9.out) _ _ _ _ _ _ _ _))) (fun hHeld => ?_)
    replace hHeld := hHeld (by decide)
    clear hK K
    (try simp only [Act.put, List.setIfInBounds_toArray, List.set_cons_zero, List.set_cons_succ])
    refine oT 11 (fun K hK => ?_)
    go_simp
    (go_at_call 112; refine (nshut_calls _).mono ?_; rintro r wb ⟨rfl, hu⟩; have HPb := As.mk (HPa.out.trans hu (fun _ _ h => h)); clear hu)
    refine hK.out _ _ (fun _ => by with_reducible (first | exact HK9.out _ (up1 HPz.out) | exact HK9.out _ (up1 HPa.out) | exact HK9.out _ (up1 HPb.out) | exact HK9.out _ (up1 HPc.out) | exact HK9.out _ (up1 (HPc.out.alloc _)) | exact HK9.out _ (up1 HP9.out) | exact HK9.out _ (set8_upd (up1 HP9.out) _ _ _ _ _ _ _ _))) (fun hHeld => ?_)
    replace hHeld := hHeld (by decide)
    clear hK K
    (try simp only [Act.put, List.setIfInBounds_toArray, List.set_cons_zero, List.set_cons_succ])
    refine oT 12 (fun K hK => ?_)
    go_simp
    (go_at_call 112; refine (nshut_calls _).mono ?_; rintro r wc ⟨rfl, hu⟩; have HPc := As.mk (HPb.out.trans hu (fun _ _ h => h)); clear hu)
    refine hK.out _ _ (fun _ => by with_reducible (first | exact HK9.out _ (up1 HPz.out) | exact HK9.out _ (up1 HPa.out) | exact HK9.out _ (up1 HPb.out) | exact HK9.out _ (up1 HPc.out) | exact HK9.out _ (up1 (HPc.out.alloc _)) | exact HK9.out _ (up1 HP9.out) | exact HK9.out _ (set8_upd (up1 HP9.out) _ _ _ _ _ _ _ _))) (fun hHeld => ?_)
    replace hHeld := hHeld (by decide)
    clear hK K
    (try simp only [Act.put, List.setIfInBounds_toArray, List.set_cons_zero, List.set_cons_succ])
    refine oT 13 (fun K hK => ?_)
    go_simp
    refine hK.out _ _ (fun _ => by with_reducible (first | exact HK9.out _ (up1 HPz.out) | exact HK9.out _ (up1 HPa.out) | exact HK9.out _ (up1 HPb.out) | exact HK9.out _ (up1 HPc.out) | exact HK9.out _ (up1 (HPc.out.alloc _)) | exact HK9.out _ (up1 HP9.out) | exact HK9.out _ (set8_upd (up1 HP9.out) _ _ _ _ _ _ _ _))) (fun hHeld => ?_)
    replace hHeld := hHeld (by decide)
    clear hK K
    (try simp only [Act.put, List.setIfInBounds_toArray, List.set_cons_zero, List.set_cons_succ])
    refine oT 14 (fun K hK => ?_)
    go_simp
    (go_at_call 113; refine (HT.out (wc.alloc _) (some ⟨wc.heap.size, 0, none⟩) 3 ((HUZ.out.trans HPc.out (fun _ _ h => h)).alloc _) (row_toks (l := [yl, shutT, shutT]) (heap_alloc_new wc _) trivial)).mono ?_; rintro r w9 ⟨B9, c9, ⟨rfl, hp9⟩, hr9, hn9⟩; have HV9 := As.mk (fun o => (HUZ.out.trans HPc.out (fun _ _ h => h)).alloc o); have HL9 := As.mk (show w.heap.size < wc.heap.size + 1 from by have h7 := HPc.out.size; have h8 := lt_of_block HBZ.out; omega); have HT9 := As.mk hp9; have HR9 := As.mk hr9; have HN9 := As.mk hn9; have HP9 := As.mk ((HPc.out.alloc _).trans hp9 (fun _ _ h => h)); have HB9 := As.mk ((HP9.out.block w.heap.size (lt_of_block HBZ.out) (fun h => h)).trans HBZ.out); have hbl9 : w.heap.size < w9.heap.size := lt_of_block HB9.out; have hcf9 : ∀ i, w9.frozen? ⟨w.heap.size, i, none⟩ = false := (fun i => by simp [World.frozen?, HB9.out]); obtain ⟨k0, k1, k2, k3, k4, k5, k6, k7⟩ := cells8 HB9.out; clear hp9 hr9 hn9)
    refine hK.out _ _ (fun _ => by with_reducible (first | exact HK9.out _ (up1 HPz.out) | exact HK9.out _ (up1 HPa.out) | exact HK9.out _ (up1 HPb.out) | exact HK9.out _ (up1 HPc.out) | exact HK9.out _ (up1 (HPc.out.alloc _)) | exact HK9.out _ (up1 HP9.out) | exact HK9.out _ (set8_upd (up1 HP9.out) _ _ _ _ _ _ _ _))) (fun hHeld => ?_)
    replace hHeld := hHeld (by decide)
    clear hK K
    (try simp only [Act.put, List.setIfInBounds_toArray, List.set_cons_zero, List.set_cons_succ])
    refine zT 15 ?_
    refine zT 16 ?_
    refine oT 17 (fun K hK => ?_)
    go_simp
    refine hK.out _ _ (fun _ => by with_reducible (first | exact HK9.out _ (up1 HPz.out) | exact HK9.out _ (up1 HPa.out) | exact HK9.out _ (up1 HPb.out) | exact HK9.out _ (up1 HPc.out) | exact HK9.out _ (up1 (HPc.out.alloc _)) | exact HK9.out _ (up1 HP9.out) | exact HK9.out _ (set8_upd (up1 HP9.out) _ _ _ _ _ _ _ _))) (fun hHeld => ?_)
    replace hHeld := hHeld (by decide)
    clear hK K
    (try simp only [Act.put, List.setIfInBounds_toArray, List.set_cons_zero, List.set_cons_succ])
    refine oT 18 (fun K hK => ?_)
    go_simp
    refine hK.out _ _ (fun h => absurd rfl h) (fun hHeld => ?_)
    clear hK K
    (try simp only [Act.put, List.setIfInBounds_toArray, List.set_cons_zero, List.set_cons_succ])
    refine wpAnyT_done (by kernel_rfl) ?_ _
    go_wp2
    exact bodyPost_ret (step_end (rb := w.heap.size) rfl _ rfl (set8 (rb := w.heap.size) HB9.out _ _ _ _ _ _ _ _)) rfl ⟨B9, c9, ⟨rfl, set8_pure ((HV9.out _).trans HT9.out (fun _ _ h => h)) (Nat.le_refl _) _ _ _ _ _ _ _ _⟩, ⟨Rp.row_fp (Rp.row_upd HR9.out.1 (set8_upd (Upd.refl _ _) _ _ _ _ _ _ _ _) (fun k _ h e => by have h7 := HL9.out; simp at h; omega)) (fun k h => by have h7 := HL9.out; simp at h; omega), HR9.out.2⟩, HN9.out⟩
  · have xl2 : x2 < l.length := by omega
    obtain ⟨b2, o2, hA2, _, _, d0, d1, d2, d3⟩ := tok_at HR.out hy
    simp only [Option.some.injEq, Addr.mk.injEq, and_true] at hA2
    obtain ⟨rfl, rfl⟩ := hA2
    have hw3 : IntKind.i64.wrap (((x1 + 1 : Nat) : Int) - 2) = (x2 : Int) := by rw [IntWalk.i64_in _ (by omega)]; omega
    have hw4 : IntKind.i64.wrap (((x1 : Nat) : Int) + 1 - 2) = (x2 : Int) := by rw [IntWalk.i64_in _ (by omega)]; omega
    have hw6 : IntKind.i64.wrap ((x1 : Int) - 1) = (x2 : Int) := by rw [IntWalk.i64_in _ (by omega)]; omega
    have hw7 : IntKind.i64.wrap (x2 : Int) = (x2 : Int) := IntWalk.i64_in _ (by omega)
    clear hx12
    rcases hc with hk2 | ⟨rfl, pp, z, hz, hzk, h1, hne⟩
    · have HKY := As.mk (fun (v : World) (hu : Pure w v) => (by have hh : ∀ k, v.cell? ⟨bA, k, none⟩ = w.cell? ⟨bA, k, none⟩ := (fun k => hu.cell HBA.out (fun h => h)); exact ⟨(hh _).trans d0, (hh _).trans d1, (hh _).trans d2, (hh _).trans d3⟩ : (fun v => v.cell? ⟨bA, oA + x2 * 4, none⟩ = some (.int .i64 y.k) ∧ v.cell? ⟨bA, oA + x2 * 4 + 1, none⟩ = some (.int .i64 y.t) ∧ v.cell? ⟨bA, oA + x2 * 4 + 2, none⟩ = some (.int .i64 y.n) ∧ v.cell? ⟨bA, oA + x2 * 4 + 3, none⟩ = some (.int .i64 y.m)) v))
      have ek : (y.k == 2) = false := by simpa using hk2
      clear hy hk2 d0 d1 d2 d3
      go_enter Tryz.func53, Tryz.ntmps53
      go_wp2_with (first | (go_at_call 111; with_reducible refine (HI.out w1 HU1.out).mono ?_; rintro r w2 ⟨rfl, hu⟩; have HB2 := As.mk ((hu.block w.heap.size (lt_of_block HB1.out) (fun h => h)).trans HB1.out); have HQ2 := As.mk ((hu.block (w.heap.size + 1) (lt_of_block HQ1.out) (fun h => h)).trans HQ1.out); have q2 := cells2 HQ2.out; have HU2 := As.mk (HU1.out.trans hu (fun _ _ h => h)); clear hu) | (go_at_call 110; refine (HP.out _ ((Upd.alloc1 (fun _ => False) _ _).alloc _)).mono ?_; rintro r w1 ⟨rfl, hu⟩; obtain ⟨hb1, hb2, hu2⟩ := two_up hu; obtain ⟨q0, q1⟩ := cells2 hb2; have HB1 := As.mk hb1; have HQ1 := As.mk hb2; have HU1 := As.mk hu2; clear hu hb1 hb2 hu2))
      obtain ⟨wo, rfl⟩ : ∃ wo : World, wo = w2 := ⟨_, rfl⟩
      have HBY := HB2
      have HQY := HQ2
      have HUY := HU2
      have HP0 := As.mk (show Pure wo wo.drew from (Upd.refl _ _).drew)
      refine wp_region_held_drew (S := (fun v => v.cell? ⟨bA, oA + x1 * 4, none⟩ = some (.int .i64 2) ∧ v.cell? ⟨bA, oA + x1 * 4 + 1, none⟩ = some (.int .i64 0) ∧ v.cell? ⟨bA, oA + x1 * 4 + 2, none⟩ = some (.int .i64 0) ∧ v.cell? ⟨bA, oA + x1 * 4 + 3, none⟩ = some (.int .i64 0))) (by kernel_rfl) ?_ (fun hHeld => ?_)
      · with_reducible (first | exact HKX.out _ HUY.out.drew | exact HKX.out _ HU3.out)
      refine zH 0 ?_
      refine zH 1 ?_
      refine zH 2 ?_
      refine zH 3 ?_
      (try simp only [Act.put, List.setIfInBounds_toArray, List.set_cons_zero, List.set_cons_succ])
      refine zH 4 ?_
      refine zH 5 ?_
      refine zH 6 ?_
      refine zH 7 ?_
      (try simp only [Act.put, List.setIfInBounds_toArray, List.set_cons_zero, List.set_cons_succ])
      refine wpAnyH_ready (rs := [8]) (by kernel_rfl) (by simp) (AllReadyH.cons (o := { dst := (some 41), op := (Go.Op.call { callee := (Go.Callee.value (Go.Operand.func 112)), args := #[], argTypes := #[] }), type := 71, pos := "nest.go:139", after := #[{ on := 2, ground := Go.Ground.chain }, { on := 2, ground := Go.Ground.guard }], guard := (some (2, false)) }) rfl (fun K hK => ?_) AllReadyH.nil)
      go_simp
      (go_at_call 112; refine (nshut_calls _).mono ?_; rintro r w3 ⟨rfl, hu⟩; have HP3 := As.mk (HP0.out.trans hu (fun _ _ h => h)); have HB3 := As.mk ((HP3.out.block w.heap.size (lt_of_block HBY.out) (fun h => h)).trans HBY.out); have HQ3 := As.mk ((HP3.out.block (w.heap.size + 1) (lt_of_block HQY.out) (fun h => h)).trans HQY.out); have HU3 := As.mk (HUY.out.trans HP3.out (fun _ _ h => h)); clear hu)
      refine hK.out _ _ (by with_reducible (first | exact HKX.out _ HUY.out.drew | exact HKX.out _ HU3.out)) (fun hHeld => ?_)
      clear hK K
      (try simp only [Act.put, List.setIfInBounds_toArray, List.set_cons_zero, List.set_cons_succ])
      refine zH 9 ?_
      refine zH 10 ?_
      refine wpAnyH_done (by kernel_rfl) ?_ _
      go_wp2
      have HP30 := As.mk (show Pure w3 w3.drew from (Upd.refl _ _).drew)
      refine wp_region_held_drew (S := (fun v => v.cell? ⟨bA, oA + x2 * 4, none⟩ = some (.int .i64 y.k) ∧ v.cell? ⟨bA, oA + x2 * 4 + 1, none⟩ = some (.int .i64 y.t) ∧ v.cell? ⟨bA, oA + x2 * 4 + 2, none⟩ = some (.int .i64 y.n) ∧ v.cell? ⟨bA, oA + x2 * 4 + 3, none⟩ = some (.int .i64 y.m))) (by kernel_rfl) ?_ (fun hHeld => ?_)
      · with_reducible (first | exact HKY.out _ HU3.out.drew | exact HKY.out _ HU4.out)
      refine zH 0 ?_
      (try simp only [Act.put, List.setIfInBounds_toArray, List.set_cons_zero, List.set_cons_succ])
      refine zH 1 ?_
      refine zH 2 ?_
      refine zH 3 ?_
      refine zH 4 ?_
      (try simp only [Act.put, List.setIfInBounds_toArray, List.set_cons_zero, List.set_cons_succ])
      refine zH 5 ?_
      refine zH 6 ?_
      refine wpAnyH_ready (rs := [7]) (by kernel_rfl) (by simp) (AllReadyH.cons (o := { dst := (some 54), op := (Go.Op.call { callee := (Go.Callee.value (Go.Operand.func 112)), args := #[], argTypes := #[] }), type := 71, pos := "nest.go:142", after := #[{ on := 2, ground := Go.Ground.chain }, { on := 2, ground := Go.Ground.guard }], guard := (some (2, true)) }) rfl (fun K hK => ?_) AllReadyH.nil)
      go_simp
      (go_at_call 112; refine (nshut_calls _).mono ?_; rintro r w4 ⟨rfl, hu⟩; have HP4 := As.mk (HP30.out.trans hu (fun _ _ h => h)); have HB4 := As.mk ((HP4.out.block w.heap.size (lt_of_block HB3.out) (fun h => h)).trans HB3.out); have HQ4 := As.mk ((HP4.out.block (w.heap.size + 1) (lt_of_block HQ3.out) (fun h => h)).trans HQ3.out); have HU4 := As.mk (HU3.out.trans HP4.out (fun _ _ h => h)); clear hu)
      refine hK.out _ _ (by with_reducible (first | exact HKY.out _ HU3.out.drew | exact HKY.out _ HU4.out)) (fun hHeld => ?_)
      clear hK K
      (try simp only [Act.put, List.setIfInBounds_toArray, List.set_cons_zero, List.set_cons_succ])
      refine zH 8 ?_
      (try simp only [Act.put, List.setIfInBounds_toArray, List.set_cons_zero, List.set_cons_succ])
      refine zH 9 ?_
      refine zH 10 ?_
      refine sH 11 ?_
      refine sH 12 ?_
      (try simp only [Act.put, List.setIfInBounds_toArray, List.set_cons_zero, List.set_cons_succ])
      refine sH 13 ?_
      refine sH 14 ?_
      refine sH 15 ?_
      refine sH 16 ?_
      (try simp only [Act.put, List.setIfInBounds_toArray, List.set_cons_zero, List.set_cons_succ])
      refine sH 17 ?_
      refine sH 18 ?_
      refine sH 19 ?_
      refine sH 20 ?_
      (try simp only [Act.put, List.setIfInBounds_toArray, List.set_cons_zero, List.set_cons_succ])
      refine sH 21 ?_
      refine zH 22 ?_
      refine wpAnyH_done (by kernel_rfl) ?_ _
      obtain ⟨wz, rfl⟩ : ∃ wz : World, wz = w4 := ⟨_, rfl⟩
      have HBZ := HB4
      have HQZ := HQ4
      have HUZ := HU4
      have HK8 := As.mk (fun v (hu : Upd (fun k => k = w.heap.size) wz v) => cells2 ((hu.block (w.heap.size + 1) (lt_of_block HQZ.out) (by omega)).trans HQZ.out))
      have HPz := As.mk (show Pure wz wz.drew from (Upd.refl _ _).drew)
      go_wp2
      have HK9 := As.mk (fun v (hu : Upd (fun k => k = w.heap.size) wz v) => (by obtain ⟨d0, d1⟩ := HK8.out v hu; obtain ⟨g0, g1, g2, g3⟩ := HKL.out wz HUZ.out; have hb9 : bA < wz.heap.size := Nat.lt_of_lt_of_le HBA.out HUZ.out.size; have hne : bA ≠ w.heap.size := (by have := HBA.out; omega); have hh : ∀ k, v.cell? ⟨bA, k, none⟩ = wz.cell? ⟨bA, k, none⟩ := (fun k => hu.cell hb9 hne); exact ⟨d0, d1, (hh _).trans g0, (hh _).trans g1, (hh _).trans g2, (hh _).trans g3⟩ : (fun v => v.cell? ⟨w.heap.size + 1, 0, none⟩ = some (.pointer (some ⟨cb, 0, none⟩)) ∧ v.cell? ⟨w.heap.size + 1, 1, none⟩ = some (.slice (some ⟨bA, oA, none⟩) l.length c) ∧ v.cell? ⟨bA, oA + li * 4, none⟩ = some (.int .i64 yl.k) ∧ v.cell? ⟨bA, oA + li * 4 + 1, none⟩ = some (.int .i64 yl.t) ∧ v.cell? ⟨bA, oA + li * 4 + 2, none⟩ = some (.int .i64 yl.n) ∧ v.cell? ⟨bA, oA + li * 4 + 3, none⟩ = some (.int .i64 yl.m)) v))
      refine wp_region_T (P := Tryz.prog) (fun v => v.cell? ⟨w.heap.size + 1, 0, none⟩ = some (.pointer (some ⟨cb, 0, none⟩)) ∧ v.cell? ⟨w.heap.size + 1, 1, none⟩ = some (.slice (some ⟨bA, oA, none⟩) l.length c) ∧ v.cell? ⟨bA, oA + li * 4, none⟩ = some (.int .i64 yl.k) ∧ v.cell? ⟨bA, oA + li * 4 + 1, none⟩ = some (.int .i64 yl.t) ∧ v.cell? ⟨bA, oA + li * 4 + 2, none⟩ = some (.int .i64 yl.n) ∧ v.cell? ⟨bA, oA + li * 4 + 3, none⟩ = some (.int .i64 yl.m)) 18 (by kernel_rfl) ?_ (fun hHeld => ?_)
      · with_reducible (first | exact HK9.out _ (up1 HPz.out) | exact HK9.out _ (up1 HPa.out) | exact HK9.out _ (up1 HPb.out) | exact HK9.out _ (up1 HPc.out) | exact HK9.out _ (up1 (HPc.out.alloc _)) | exact HK9.out _ (up1 HP9.out) | exact HK9.out _ (set8_upd (up1 HP9.out) _ _ _ _ _ _ _ _))
      refine zT 0 ?_
      refine zT 1 ?_
      (try simp only [Act.put, List.setIfInBounds_toArray, List.set_cons_zero, List.set_cons_succ])
      refine zT 2 ?_
      refine zT 3 ?_
      refine zT 4 ?_
      refine zT 5 ?_
      (try simp only [Act.put, List.setIfInBounds_toArray, List.set_cons_zero, List.set_cons_succ])
      refine zT 7 ?_
      refine zT 8 ?_
      refine zT 9 ?_
      refine zT 10 ?_
      (try simp only [Act.put, List.setIfInBounds_toArray, List.set_cons_zero, List.set_cons_succ])
      refine oT 6 (fun K hK => ?_)
      go_simp
      (go_at_call 114; refine (nmove_calls _ _ _ _ _ _).mono ?_; rintro r wa ⟨rfl, hu⟩; have HPa := As.mk (HPz.out.trans hu (fun _ _ h => h)); clear hu)
      refine hK.out _ _ (fun _ => by with_reducible (first | exact HK9.out _ (up1 HPz.out) | exact HK9.out _ (up1 HPa.out) | exact HK9.out _ (up1 HPb.out) | exact HK9.out _ (up1 HPc.out) | exact HK9.out _ (up1 (HPc.out.alloc _)) | exact HK9.out _ (up1 HP9.out) | exact HK9.out _ (set8_upd (up1 HP9.out) _ _ _ _ _ _ _ _))) (fun hHeld => ?_)
      replace hHeld := hHeld (by decide)
      clear hK K
      (try simp only [Act.put, List.setIfInBounds_toArray, List.set_cons_zero, List.set_cons_succ])
      refine oT 11 (fun K hK => ?_)
      go_simp
      (go_at_call 112; refine (nshut_calls _).mono ?_; rintro r wb ⟨rfl, hu⟩; have HPb := As.mk (HPa.out.trans hu (fun _ _ h => h)); clear hu)
      refine hK.out _ _ (fun _ => by with_reducible (first | exact HK9.out _ (up1 HPz.out) | exact HK9.out _ (up1 HPa.out) | exact HK9.out _ (up1 HPb.out) | exact HK9.out _ (up1 HPc.out) | exact HK9.out _ (up1 (HPc.out.alloc _)) | exact HK9.out _ (up1 HP9.out) | exact HK9.out _ (set8_upd (up1 HP9.out) _ _ _ _ _ _ _ _))) (fun hHeld => ?_)
      replace hHeld := hHeld (by decide)
      clear hK K
      (try simp only [Act.put, List.setIfInBounds_toArray, List.set_cons_zero, List.set_cons_succ])
      refine oT 12 (fun K hK => ?_)
      go_simp
      (go_at_call 112; refine (nshut_calls _).mono ?_; rintro r wc ⟨rfl, hu⟩; have HPc := As.mk (HPb.out.trans hu (fun _ _ h => h)); clear hu)
      refine hK.out _ _ (fun _ => by with_reducible (first | exact HK9.out _ (up1 HPz.out) | exact HK9.out _ (up1 HPa.out) | exact HK9.out _ (up1 HPb.out) | exact HK9.out _ (up1 HPc.out) | exact HK9.out _ (up1 (HPc.out.alloc _)) | exact HK9.out _ (up1 HP9.out) | exact HK9.out _ (set8_upd (up1 HP9.out) _ _ _ _ _ _ _ _))) (fun hHeld => ?_)
      replace hHeld := hHeld (by decide)
      clear hK K
      (try simp only [Act.put, List.setIfInBounds_toArray, List.set_cons_zero, List.set_cons_succ])
      refine oT 13 (fun K hK => ?_)
      go_simp
      refine hK.out _ _ (fun _ => by with_reducible (first | exact HK9.out _ (up1 HPz.out) | exact HK9.out _ (up1 HPa.out) | exact HK9.out _ (up1 HPb.out) | exact HK9.out _ (up1 HPc.out) | exact HK9.out _ (up1 (HPc.out.alloc _)) | exact HK9.out _ (up1 HP9.out) | exact HK9.out _ (set8_upd (up1 HP9.out) _ _ _ _ _ _ _ _))) (fun hHeld => ?_)
      replace hHeld := hHeld (by decide)
      clear hK K
      (try simp only [Act.put, List.setIfInBounds_toArray, List.set_cons_zero, List.set_cons_succ])
      refine oT 14 (fun K hK => ?_)
      go_simp
      (go_at_call 113; refine (HT.out (wc.alloc _) (some ⟨wc.heap.size, 0, none⟩) 3 ((HUZ.out.trans HPc.out (fun _ _ h => h)).alloc _) (row_toks (l := [yl, shutT, shutT]) (heap_alloc_new wc _) trivial)).mono ?_; rintro r w9 ⟨B9, c9, ⟨rfl, hp9⟩, hr9, hn9⟩; have HV9 := As.mk (fun o => (HUZ.out.trans HPc.out (fun _ _ h => h)).alloc o); have HL9 := As.mk (show w.heap.size < wc.heap.size + 1 from by have h7 := HPc.out.size; have h8 := lt_of_block HBZ.out; omega); have HT9 := As.mk hp9; have HR9 := As.mk hr9; have HN9 := As.mk hn9; have HP9 := As.mk ((HPc.out.alloc _).trans hp9 (fun _ _ h => h)); have HB9 := As.mk ((HP9.out.block w.heap.size (lt_of_block HBZ.out) (fun h => h)).trans HBZ.out); have hbl9 : w.heap.size < w9.heap.size := lt_of_block HB9.out; have hcf9 : ∀ i, w9.frozen? ⟨w.heap.size, i, none⟩ = false := (fun i => by simp [World.frozen?, HB9.out]); obtain ⟨k0, k1, k2, k3, k4, k5, k6, k7⟩ := cells8 HB9.out; clear hp9 hr9 hn9)
      refine hK.out _ _ (fun _ => by with_reducible (first | exact HK9.out _ (up1 HPz.out) | exact HK9.out _ (up1 HPa.out) | exact HK9.out _ (up1 HPb.out) | exact HK9.out _ (up1 HPc.out) | exact HK9.out _ (up1 (HPc.out.alloc _)) | exact HK9.out _ (up1 HP9.out) | exact HK9.out _ (set8_upd (up1 HP9.out) _ _ _ _ _ _ _ _))) (fun hHeld => ?_)
      replace hHeld := hHeld (by decide)
      clear hK K
      (try simp only [Act.put, List.setIfInBounds_toArray, List.set_cons_zero, List.set_cons_succ])
      refine zT 15 ?_
      refine zT 16 ?_
      refine oT 17 (fun K hK => ?_)
      go_simp
      refine hK.out _ _ (fun _ => by with_reducible (first | exact HK9.out _ (up1 HPz.out) | exact HK9.out _ (up1 HPa.out) | exact HK9.out _ (up1 HPb.out) | exact HK9.out _ (up1 HPc.out) | exact HK9.out _ (up1 (HPc.out.alloc _)) | exact HK9.out _ (up1 HP9.out) | exact HK9.out _ (set8_upd (up1 HP9.out) _ _ _ _ _ _ _ _))) (fun hHeld => ?_)
      replace hHeld := hHeld (by decide)
      clear hK K
      (try simp only [Act.put, List.setIfInBounds_toArray, List.set_cons_zero, List.set_cons_succ])
      refine oT 18 (fun K hK => ?_)
      go_simp
      refine hK.out _ _ (fun h => absurd rfl h) (fun hHeld => ?_)
      clear hK K
      (try simp only [Act.put, List.setIfInBounds_toArray, List.set_cons_zero, List.set_cons_succ])
      refine wpAnyT_done (by kernel_rfl) ?_ _
      go_wp2
      exact bodyPost_ret (step_end (rb := w.heap.size) rfl _ rfl (set8 (rb := w.heap.size) HB9.out _ _ _ _ _ _ _ _)) rfl ⟨B9, c9, ⟨rfl, set8_pure ((HV9.out _).trans HT9.out (fun _ _ h => h)) (Nat.le_refl _) _ _ _ _ _ _ _ _⟩, ⟨Rp.row_fp (Rp.row_upd HR9.out.1 (set8_upd (Upd.refl _ _) _ _ _ _ _ _ _ _) (fun k _ h e => by have h7 := HL9.out; simp at h; omega)) (fun k h => by have h7 := HL9.out; simp at h; omega), HR9.out.2⟩, HN9.out⟩
    · have pl : pp < l.length := (List.getElem?_eq_some_iff.1 hz).1
      obtain ⟨b3, o3, hA3, _, _, e0, e1, e2, e3⟩ := tok_at HR.out hz
      simp only [Option.some.injEq, Addr.mk.injEq, and_true] at hA3
      obtain ⟨rfl, rfl⟩ := hA3
      have H1 := As.mk h1
      have ek : (z.k == yl.k) = true := by simp [hzk, HYK.out]
      have HKY0 := HKL
      obtain ⟨f0, f1, f2, f3⟩ := HKL.out w (Upd.refl _ _)
      have HKY := As.mk (fun (v : World) (hu : Pure w v) => (by have hh : ∀ k, v.cell? ⟨bA, k, none⟩ = w.cell? ⟨bA, k, none⟩ := (fun k => hu.cell HBA.out (fun h => h)); exact ⟨(hh _).trans d0, (hh _).trans d1, (hh _).trans d2, (hh _).trans d3, (hh _).trans e0, (hh _).trans e1, (hh _).trans e2, (hh _).trans e3, (hh _).trans f0, (hh _).trans f1, (hh _).trans f2, (hh _).trans f3⟩ : (fun v => v.cell? ⟨bA, oA + x2 * 4, none⟩ = some (.int .i64 2) ∧ v.cell? ⟨bA, oA + x2 * 4 + 1, none⟩ = some (.int .i64 0) ∧ v.cell? ⟨bA, oA + x2 * 4 + 2, none⟩ = some (.int .i64 0) ∧ v.cell? ⟨bA, oA + x2 * 4 + 3, none⟩ = some (.int .i64 0) ∧ v.cell? ⟨bA, oA + pp * 4, none⟩ = some (.int .i64 z.k) ∧ v.cell? ⟨bA, oA + pp * 4 + 1, none⟩ = some (.int .i64 z.t) ∧ v.cell? ⟨bA, oA + pp * 4 + 2, none⟩ = some (.int .i64 z.n) ∧ v.cell? ⟨bA, oA + pp * 4 + 3, none⟩ = some (.int .i64 z.m) ∧ v.cell? ⟨bA, oA + li * 4, none⟩ = some (.int .i64 yl.k) ∧ v.cell? ⟨bA, oA + li * 4 + 1, none⟩ = some (.int .i64 yl.t) ∧ v.cell? ⟨bA, oA + li * 4 + 2, none⟩ = some (.int .i64 yl.n) ∧ v.cell? ⟨bA, oA + li * 4 + 3, none⟩ = some (.int .i64 yl.m)) v))
      clear hy hz hzk h1 HKY0 d0 d1 d2 d3 e0 e1 e2 e3 f0 f1 f2 f3
      rcases hne with hne | ⟨het, hne⟩
      · have et : (z.t == yl.t) = false := by simpa using hne
        clear hne
        go_enter Tryz.func53, Tryz.ntmps53
        go_wp2_with (first | (go_at_call 111; with_reducible refine (HI.out w1 HU1.out).mono ?_; rintro r w2 ⟨rfl, hu⟩; have HB2 := As.mk ((hu.block w.heap.size (lt_of_block HB1.out) (fun h => h)).trans HB1.out); have HQ2 := As.mk ((hu.block (w.heap.size + 1) (lt_of_block HQ1.out) (fun h => h)).trans HQ1.out); have q2 := cells2 HQ2.out; have HU2 := As.mk (HU1.out.trans hu (fun _ _ h => h)); clear hu) | (go_at_call 110; refine (HP.out _ ((Upd.alloc1 (fun _ => False) _ _).alloc _)).mono ?_; rintro r w1 ⟨rfl, hu⟩; obtain ⟨hb1, hb2, hu2⟩ := two_up hu; obtain ⟨q0, q1⟩ := cells2 hb2; have HB1 := As.mk hb1; have HQ1 := As.mk hb2; have HU1 := As.mk hu2; clear hu hb1 hb2 hu2))
        obtain ⟨wo, rfl⟩ : ∃ wo : World, wo = w2 := ⟨_, rfl⟩
        have HBY := HB2
        have HQY := HQ2
        have HUY := HU2
        have HP0 := As.mk (show Pure wo wo.drew from (Upd.refl _ _).drew)
        refine wp_region_held_drew (S := (fun v => v.cell? ⟨bA, oA + x1 * 4, none⟩ = some (.int .i64 2) ∧ v.cell? ⟨bA, oA + x1 * 4 + 1, none⟩ = some (.int .i64 0) ∧ v.cell? ⟨bA, oA + x1 * 4 + 2, none⟩ = some (.int .i64 0) ∧ v.cell? ⟨bA, oA + x1 * 4 + 3, none⟩ = some (.int .i64 0))) (by kernel_rfl) ?_ (fun hHeld => ?_)
        · with_reducible (first | exact HKX.out _ HUY.out.drew | exact HKX.out _ HU3.out)
        refine zH 0 ?_
        refine zH 1 ?_
        refine zH 2 ?_
        (try simp only [Act.put, List.setIfInBounds_toArray, List.set_cons_zero, List.set_cons_succ])
        refine zH 3 ?_
        refine zH 4 ?_
        refine zH 5 ?_
        refine zH 6 ?_
        (try simp only [Act.put, List.setIfInBounds_toArray, List.set_cons_zero, List.set_cons_succ])
        refine zH 7 ?_
        refine wpAnyH_ready (rs := [8]) (by kernel_rfl) (by simp) (AllReadyH.cons (o := { dst := (some 41), op := (Go.Op.call { callee := (Go.Callee.value (Go.Operand.func 112)), args := #[], argTypes := #[] }), type := 71, pos := "nest.go:139", after := #[{ on := 2, ground := Go.Ground.chain }, { on := 2, ground := Go.Ground.guard }], guard := (some (2, false)) }) rfl (fun K hK => ?_) AllReadyH.nil)
        go_simp
        (go_at_call 112; refine (nshut_calls _).mono ?_; rintro r w3 ⟨rfl, hu⟩; have HP3 := As.mk (HP0.out.trans hu (fun _ _ h => h)); have HB3 := As.mk ((HP3.out.block w.heap.size (lt_of_block HBY.out) (fun h => h)).trans HBY.out); have HQ3 := As.mk ((HP3.out.block (w.heap.size + 1) (lt_of_block HQY.out) (fun h => h)).trans HQY.out); have HU3 := As.mk (HUY.out.trans HP3.out (fun _ _ h => h)); clear hu)
        refine hK.out _ _ (by with_reducible (first | exact HKX.out _ HUY.out.drew | exact HKX.out _ HU3.out)) (fun hHeld => ?_)
        clear hK K
        (try simp only [Act.put, List.setIfInBounds_toArray, List.set_cons_zero, List.set_cons_succ])
        refine zH 9 ?_
        refine zH 10 ?_
        (try simp only [Act.put, List.setIfInBounds_toArray, List.set_cons_zero, List.set_cons_succ])
        refine wpAnyH_done (by kernel_rfl) ?_ _
        go_wp2
        have HP30 := As.mk (show Pure w3 w3.drew from (Upd.refl _ _).drew)
        refine wp_region_held_drew (S := (fun v => v.cell? ⟨bA, oA + x2 * 4, none⟩ = some (.int .i64 2) ∧ v.cell? ⟨bA, oA + x2 * 4 + 1, none⟩ = some (.int .i64 0) ∧ v.cell? ⟨bA, oA + x2 * 4 + 2, none⟩ = some (.int .i64 0) ∧ v.cell? ⟨bA, oA + x2 * 4 + 3, none⟩ = some (.int .i64 0) ∧ v.cell? ⟨bA, oA + pp * 4, none⟩ = some (.int .i64 z.k) ∧ v.cell? ⟨bA, oA + pp * 4 + 1, none⟩ = some (.int .i64 z.t) ∧ v.cell? ⟨bA, oA + pp * 4 + 2, none⟩ = some (.int .i64 z.n) ∧ v.cell? ⟨bA, oA + pp * 4 + 3, none⟩ = some (.int .i64 z.m) ∧ v.cell? ⟨bA, oA + li * 4, none⟩ = some (.int .i64 yl.k) ∧ v.cell? ⟨bA, oA + li * 4 + 1, none⟩ = some (.int .i64 yl.t) ∧ v.cell? ⟨bA, oA + li * 4 + 2, none⟩ = some (.int .i64 yl.n) ∧ v.cell? ⟨bA, oA + li * 4 + 3, none⟩ = some (.int .i64 yl.m))) (by kernel_rfl) ?_ (fun hHeld => ?_)
        · with_reducible (first | exact HKY.out _ HU3.out.drew | exact HKY.out _ HU4.out | exact HKY.out _ HU5.out)
        refine zH 0 ?_
        refine zH 1 ?_
        refine zH 2 ?_
        refine zH 3 ?_
        (try simp only [Act.put, List.setIfInBounds_toArray, List.set_cons_zero, List.set_cons_succ])
        refine zH 4 ?_
        refine zH 5 ?_
        refine zH 6 ?_
        refine wpAnyH_ready (rs := [7]) (by kernel_rfl) (by simp) (AllReadyH.cons (o := { dst := (some 54), op := (Go.Op.call { callee := (Go.Callee.value (Go.Operand.func 112)), args := #[], argTypes := #[] }), type := 71, pos := "nest.go:142", after := #[{ on := 2, ground := Go.Ground.chain }, { on := 2, ground := Go.Ground.guard }], guard := (some (2, true)) }) rfl (fun K hK => ?_) AllReadyH.nil)
        go_simp
        (first | (go_at_call 108; refine (H1.out w4 HU4.out).mono ?_; rintro r w5 ⟨rfl, hu⟩; have HP5 := As.mk hu; have HB5 := As.mk ((HP5.out.block w.heap.size (lt_of_block HB4.out) (fun h => h)).trans HB4.out); have HQ5 := As.mk ((HP5.out.block (w.heap.size + 1) (lt_of_block HQ4.out) (fun h => h)).trans HQ4.out); have HU5 := As.mk (HU4.out.trans HP5.out (fun _ _ h => h)); clear hu) | (go_at_call 112; refine (nshut_calls _).mono ?_; rintro r w4 ⟨rfl, hu⟩; have HP4 := As.mk (HP30.out.trans hu (fun _ _ h => h)); have HB4 := As.mk ((HP4.out.block w.heap.size (lt_of_block HB3.out) (fun h => h)).trans HB3.out); have HQ4 := As.mk ((HP4.out.block (w.heap.size + 1) (lt_of_block HQ3.out) (fun h => h)).trans HQ3.out); have HU4 := As.mk (HU3.out.trans HP4.out (fun _ _ h => h)); clear hu))
        refine hK.out _ _ (by with_reducible (first | exact HKY.out _ HU3.out.drew | exact HKY.out _ HU4.out | exact HKY.out _ HU5.out)) (fun hHeld => ?_)
        clear hK K
        (try simp only [Act.put, List.setIfInBounds_toArray, List.set_cons_zero, List.set_cons_succ])
        refine zH 8 ?_
        refine zH 9 ?_
        refine zH 10 ?_
        refine zH 11 ?_
        (try simp only [Act.put, List.setIfInBounds_toArray, List.set_cons_zero, List.set_cons_succ])
        refine zH 12 ?_
        refine zH 13 ?_
        refine zH 17 ?_
        refine zH 18 ?_
        (try simp only [Act.put, List.setIfInBounds_toArray, List.set_cons_zero, List.set_cons_succ])
        refine zH 19 ?_
        refine zH 20 ?_
        refine wpAnyH_ready (rs := [14]) (by kernel_rfl) (by simp) (AllReadyH.cons (o := { dst := (some 61), op := (Go.Op.call { callee := (Go.Callee.value (Go.Operand.func 108)), args := #[(Go.Operand.tmp 59), (Go.Operand.tmp 60)], argTypes := #[22, 3] }), type := 3, pos := "nest.go:142", after := #[{ on := 12, ground := Go.Ground.data }, { on := 13, ground := Go.Ground.data }, { on := 10, ground := Go.Ground.chain }, { on := 10, ground := Go.Ground.guard }], guard := (some (10, true)) }) rfl (fun K hK => ?_) AllReadyH.nil)
        go_simp
        (first | (go_at_call 108; refine (H1.out w4 HU4.out).mono ?_; rintro r w5 ⟨rfl, hu⟩; have HP5 := As.mk hu; have HB5 := As.mk ((HP5.out.block w.heap.size (lt_of_block HB4.out) (fun h => h)).trans HB4.out); have HQ5 := As.mk ((HP5.out.block (w.heap.size + 1) (lt_of_block HQ4.out) (fun h => h)).trans HQ4.out); have HU5 := As.mk (HU4.out.trans HP5.out (fun _ _ h => h)); clear hu) | (go_at_call 112; refine (nshut_calls _).mono ?_; rintro r w4 ⟨rfl, hu⟩; have HP4 := As.mk (HP30.out.trans hu (fun _ _ h => h)); have HB4 := As.mk ((HP4.out.block w.heap.size (lt_of_block HB3.out) (fun h => h)).trans HB3.out); have HQ4 := As.mk ((HP4.out.block (w.heap.size + 1) (lt_of_block HQ3.out) (fun h => h)).trans HQ3.out); have HU4 := As.mk (HU3.out.trans HP4.out (fun _ _ h => h)); clear hu))
        refine hK.out _ _ (by with_reducible (first | exact HKY.out _ HU3.out.drew | exact HKY.out _ HU4.out | exact HKY.out _ HU5.out)) (fun hHeld => ?_)
        clear hK K
        (try simp only [Act.put, List.setIfInBounds_toArray, List.set_cons_zero, List.set_cons_succ])
        refine zH 15 ?_
        (try simp only [Act.put, List.setIfInBounds_toArray, List.set_cons_zero, List.set_cons_succ])
        refine zH 16 ?_
        refine zH 21 ?_
        refine zH 22 ?_
        refine wpAnyH_done (by kernel_rfl) ?_ _
        obtain ⟨wz, rfl⟩ : ∃ wz : World, wz = w5 := ⟨_, rfl⟩
        have HBZ := HB5
        have HQZ := HQ5
        have HUZ := HU5
        have HK8 := As.mk (fun v (hu : Upd (fun k => k = w.heap.size) wz v) => cells2 ((hu.block (w.heap.size + 1) (lt_of_block HQZ.out) (by omega)).trans HQZ.out))
        have HPz := As.mk (show Pure wz wz.drew from (Upd.refl _ _).drew)
        go_wp2
        have HK9 := As.mk (fun v (hu : Upd (fun k => k = w.heap.size) wz v) => (by obtain ⟨d0, d1⟩ := HK8.out v hu; obtain ⟨g0, g1, g2, g3⟩ := HKL.out wz HUZ.out; have hb9 : bA < wz.heap.size := Nat.lt_of_lt_of_le HBA.out HUZ.out.size; have hne : bA ≠ w.heap.size := (by have := HBA.out; omega); have hh : ∀ k, v.cell? ⟨bA, k, none⟩ = wz.cell? ⟨bA, k, none⟩ := (fun k => hu.cell hb9 hne); exact ⟨d0, d1, (hh _).trans g0, (hh _).trans g1, (hh _).trans g2, (hh _).trans g3⟩ : (fun v => v.cell? ⟨w.heap.size + 1, 0, none⟩ = some (.pointer (some ⟨cb, 0, none⟩)) ∧ v.cell? ⟨w.heap.size + 1, 1, none⟩ = some (.slice (some ⟨bA, oA, none⟩) l.length c) ∧ v.cell? ⟨bA, oA + li * 4, none⟩ = some (.int .i64 yl.k) ∧ v.cell? ⟨bA, oA + li * 4 + 1, none⟩ = some (.int .i64 yl.t) ∧ v.cell? ⟨bA, oA + li * 4 + 2, none⟩ = some (.int .i64 yl.n) ∧ v.cell? ⟨bA, oA + li * 4 + 3, none⟩ = some (.int .i64 yl.m)) v))
        refine wp_region_T (P := Tryz.prog) (fun v => v.cell? ⟨w.heap.size + 1, 0, none⟩ = some (.pointer (some ⟨cb, 0, none⟩)) ∧ v.cell? ⟨w.heap.size + 1, 1, none⟩ = some (.slice (some ⟨bA, oA, none⟩) l.length c) ∧ v.cell? ⟨bA, oA + li * 4, none⟩ = some (.int .i64 yl.k) ∧ v.cell? ⟨bA, oA + li * 4 + 1, none⟩ = some (.int .i64 yl.t) ∧ v.cell? ⟨bA, oA + li * 4 + 2, none⟩ = some (.int .i64 yl.n) ∧ v.cell? ⟨bA, oA + li * 4 + 3, none⟩ = some (.int .i64 yl.m)) 18 (by kernel_rfl) ?_ (fun hHeld => ?_)
        · with_reducible (first | exact HK9.out _ (up1 HPz.out) | exact HK9.out _ (up1 HPa.out) | exact HK9.out _ (up1 HPb.out) | exact HK9.out _ (up1 HPc.out) | exact HK9.out _ (up1 (HPc.out.alloc _)) | exact HK9.out _ (up1 HP9.out) | exact HK9.out _ (set8_upd (up1 HP9.out) _ _ _ _ _ _ _ _))
        refine zT 0 ?_
        (try simp only [Act.put, List.setIfInBounds_toArray, List.set_cons_zero, List.set_cons_succ])
        refine zT 1 ?_
        refine zT 2 ?_
        refine zT 3 ?_
        refine zT 4 ?_
        (try simp only [Act.put, List.setIfInBounds_toArray, List.set_cons_zero, List.set_cons_succ])
        refine zT 5 ?_
        refine zT 7 ?_
        refine zT 8 ?_
        refine zT 9 ?_
        (try simp only [Act.put, List.setIfInBounds_toArray, List.set_cons_zero, List.set_cons_succ])
        refine zT 10 ?_
        refine oT 6 (fun K hK => ?_)
        go_simp
        (go_at_call 114; refine (nmove_calls _ _ _ _ _ _).mono ?_; rintro r wa ⟨rfl, hu⟩; have HPa := As.mk (HPz.out.trans hu (fun _ _ h => h)); clear hu)
        refine hK.out _ _ (fun _ => by with_reducible (first | exact HK9.out _ (up1 HPz.out) | exact HK9.out _ (up1 HPa.out) | exact HK9.out _ (up1 HPb.out) | exact HK9.out _ (up1 HPc.out) | exact HK9.out _ (up1 (HPc.out.alloc _)) | exact HK9.out _ (up1 HP9.out) | exact HK9.out _ (set8_upd (up1 HP9.out) _ _ _ _ _ _ _ _))) (fun hHeld => ?_)
        replace hHeld := hHeld (by decide)
        clear hK K
        (try simp only [Act.put, List.setIfInBounds_toArray, List.set_cons_zero, List.set_cons_succ])
        refine oT 11 (fun K hK => ?_)
        go_simp
        (go_at_call 112; refine (nshut_calls _).mono ?_; rintro r wb ⟨rfl, hu⟩; have HPb := As.mk (HPa.out.trans hu (fun _ _ h => h)); clear hu)
        refine hK.out _ _ (fun _ => by with_reducible (first | exact HK9.out _ (up1 HPz.out) | exact HK9.out _ (up1 HPa.out) | exact HK9.out _ (up1 HPb.out) | exact HK9.out _ (up1 HPc.out) | exact HK9.out _ (up1 (HPc.out.alloc _)) | exact HK9.out _ (up1 HP9.out) | exact HK9.out _ (set8_upd (up1 HP9.out) _ _ _ _ _ _ _ _))) (fun hHeld => ?_)
        replace hHeld := hHeld (by decide)
        clear hK K
        (try simp only [Act.put, List.setIfInBounds_toArray, List.set_cons_zero, List.set_cons_succ])
        refine oT 12 (fun K hK => ?_)
        go_simp
        (go_at_call 112; refine (nshut_calls _).mono ?_; rintro r wc ⟨rfl, hu⟩; have HPc := As.mk (HPb.out.trans hu (fun _ _ h => h)); clear hu)
        refine hK.out _ _ (fun _ => by with_reducible (first | exact HK9.out _ (up1 HPz.out) | exact HK9.out _ (up1 HPa.out) | exact HK9.out _ (up1 HPb.out) | exact HK9.out _ (up1 HPc.out) | exact HK9.out _ (up1 (HPc.out.alloc _)) | exact HK9.out _ (up1 HP9.out) | exact HK9.out _ (set8_upd (up1 HP9.out) _ _ _ _ _ _ _ _))) (fun hHeld => ?_)
        replace hHeld := hHeld (by decide)
        clear hK K
        (try simp only [Act.put, List.setIfInBounds_toArray, List.set_cons_zero, List.set_cons_succ])
        refine oT 13 (fun K hK => ?_)
        go_simp
        refine hK.out _ _ (fun _ => by with_reducible (first | exact HK9.out _ (up1 HPz.out) | exact HK9.out _ (up1 HPa.out) | exact HK9.out _ (up1 HPb.out) | exact HK9.out _ (up1 HPc.out) | exact HK9.out _ (up1 (HPc.out.alloc _)) | exact HK9.out _ (up1 HP9.out) | exact HK9.out _ (set8_upd (up1 HP9.out) _ _ _ _ _ _ _ _))) (fun hHeld => ?_)
        replace hHeld := hHeld (by decide)
        clear hK K
        (try simp only [Act.put, List.setIfInBounds_toArray, List.set_cons_zero, List.set_cons_succ])
        refine oT 14 (fun K hK => ?_)
        go_simp
        (go_at_call 113; refine (HT.out (wc.alloc _) (some ⟨wc.heap.size, 0, none⟩) 3 ((HUZ.out.trans HPc.out (fun _ _ h => h)).alloc _) (row_toks (l := [yl, shutT, shutT]) (heap_alloc_new wc _) trivial)).mono ?_; rintro r w9 ⟨B9, c9, ⟨rfl, hp9⟩, hr9, hn9⟩; have HV9 := As.mk (fun o => (HUZ.out.trans HPc.out (fun _ _ h => h)).alloc o); have HL9 := As.mk (show w.heap.size < wc.heap.size + 1 from by have h7 := HPc.out.size; have h8 := lt_of_block HBZ.out; omega); have HT9 := As.mk hp9; have HR9 := As.mk hr9; have HN9 := As.mk hn9; have HP9 := As.mk ((HPc.out.alloc _).trans hp9 (fun _ _ h => h)); have HB9 := As.mk ((HP9.out.block w.heap.size (lt_of_block HBZ.out) (fun h => h)).trans HBZ.out); have hbl9 : w.heap.size < w9.heap.size := lt_of_block HB9.out; have hcf9 : ∀ i, w9.frozen? ⟨w.heap.size, i, none⟩ = false := (fun i => by simp [World.frozen?, HB9.out]); obtain ⟨k0, k1, k2, k3, k4, k5, k6, k7⟩ := cells8 HB9.out; clear hp9 hr9 hn9)
        refine hK.out _ _ (fun _ => by with_reducible (first | exact HK9.out _ (up1 HPz.out) | exact HK9.out _ (up1 HPa.out) | exact HK9.out _ (up1 HPb.out) | exact HK9.out _ (up1 HPc.out) | exact HK9.out _ (up1 (HPc.out.alloc _)) | exact HK9.out _ (up1 HP9.out) | exact HK9.out _ (set8_upd (up1 HP9.out) _ _ _ _ _ _ _ _))) (fun hHeld => ?_)
        replace hHeld := hHeld (by decide)
        clear hK K
        (try simp only [Act.put, List.setIfInBounds_toArray, List.set_cons_zero, List.set_cons_succ])
        refine zT 15 ?_
        refine zT 16 ?_
        (try simp only [Act.put, List.setIfInBounds_toArray, List.set_cons_zero, List.set_cons_succ])
        refine oT 17 (fun K hK => ?_)
        go_simp
        refine hK.out _ _ (fun _ => by with_reducible (first | exact HK9.out _ (up1 HPz.out) | exact HK9.out _ (up1 HPa.out) | exact HK9.out _ (up1 HPb.out) | exact HK9.out _ (up1 HPc.out) | exact HK9.out _ (up1 (HPc.out.alloc _)) | exact HK9.out _ (up1 HP9.out) | exact HK9.out _ (set8_upd (up1 HP9.out) _ _ _ _ _ _ _ _))) (fun hHeld => ?_)
        replace hHeld := hHeld (by decide)
        clear hK K
        (try simp only [Act.put, List.setIfInBounds_toArray, List.set_cons_zero, List.set_cons_succ])
        refine oT 18 (fun K hK => ?_)
        go_simp
        refine hK.out _ _ (fun h => absurd rfl h) (fun hHeld => ?_)
        clear hK K
        (try simp only [Act.put, List.setIfInBounds_toArray, List.set_cons_zero, List.set_cons_succ])
        refine wpAnyT_done (by kernel_rfl) ?_ _
        go_wp2
        exact bodyPost_ret (step_end (rb := w.heap.size) rfl _ rfl (set8 (rb := w.heap.size) HB9.out _ _ _ _ _ _ _ _)) rfl ⟨B9, c9, ⟨rfl, set8_pure ((HV9.out _).trans HT9.out (fun _ _ h => h)) (Nat.le_refl _) _ _ _ _ _ _ _ _⟩, ⟨Rp.row_fp (Rp.row_upd HR9.out.1 (set8_upd (Upd.refl _ _) _ _ _ _ _ _ _ _) (fun k _ h e => by have h7 := HL9.out; simp at h; omega)) (fun k h => by have h7 := HL9.out; simp at h; omega), HR9.out.2⟩, HN9.out⟩
      · have et : (z.t == yl.t) = true := by simpa using het
        have en2 : (z.n == yl.n) = false := by simpa using hne
        clear hne het
        go_enter Tryz.func53, Tryz.ntmps53
        go_wp2_with (first | (go_at_call 111; with_reducible refine (HI.out w1 HU1.out).mono ?_; rintro r w2 ⟨rfl, hu⟩; have HB2 := As.mk ((hu.block w.heap.size (lt_of_block HB1.out) (fun h => h)).trans HB1.out); have HQ2 := As.mk ((hu.block (w.heap.size + 1) (lt_of_block HQ1.out) (fun h => h)).trans HQ1.out); have q2 := cells2 HQ2.out; have HU2 := As.mk (HU1.out.trans hu (fun _ _ h => h)); clear hu) | (go_at_call 110; refine (HP.out _ ((Upd.alloc1 (fun _ => False) _ _).alloc _)).mono ?_; rintro r w1 ⟨rfl, hu⟩; obtain ⟨hb1, hb2, hu2⟩ := two_up hu; obtain ⟨q0, q1⟩ := cells2 hb2; have HB1 := As.mk hb1; have HQ1 := As.mk hb2; have HU1 := As.mk hu2; clear hu hb1 hb2 hu2))
        obtain ⟨wo, rfl⟩ : ∃ wo : World, wo = w2 := ⟨_, rfl⟩
        have HBY := HB2
        have HQY := HQ2
        have HUY := HU2
        have HP0 := As.mk (show Pure wo wo.drew from (Upd.refl _ _).drew)
        refine wp_region_held_drew (S := (fun v => v.cell? ⟨bA, oA + x1 * 4, none⟩ = some (.int .i64 2) ∧ v.cell? ⟨bA, oA + x1 * 4 + 1, none⟩ = some (.int .i64 0) ∧ v.cell? ⟨bA, oA + x1 * 4 + 2, none⟩ = some (.int .i64 0) ∧ v.cell? ⟨bA, oA + x1 * 4 + 3, none⟩ = some (.int .i64 0))) (by kernel_rfl) ?_ (fun hHeld => ?_)
        · with_reducible (first | exact HKX.out _ HUY.out.drew | exact HKX.out _ HU3.out)
        refine zH 0 ?_
        refine zH 1 ?_
        (try simp only [Act.put, List.setIfInBounds_toArray, List.set_cons_zero, List.set_cons_succ])
        refine zH 2 ?_
        refine zH 3 ?_
        refine zH 4 ?_
        refine zH 5 ?_
        (try simp only [Act.put, List.setIfInBounds_toArray, List.set_cons_zero, List.set_cons_succ])
        refine zH 6 ?_
        refine zH 7 ?_
        refine wpAnyH_ready (rs := [8]) (by kernel_rfl) (by simp) (AllReadyH.cons (o := { dst := (some 41), op := (Go.Op.call { callee := (Go.Callee.value (Go.Operand.func 112)), args := #[], argTypes := #[] }), type := 71, pos := "nest.go:139", after := #[{ on := 2, ground := Go.Ground.chain }, { on := 2, ground := Go.Ground.guard }], guard := (some (2, false)) }) rfl (fun K hK => ?_) AllReadyH.nil)
        go_simp
        (go_at_call 112; refine (nshut_calls _).mono ?_; rintro r w3 ⟨rfl, hu⟩; have HP3 := As.mk (HP0.out.trans hu (fun _ _ h => h)); have HB3 := As.mk ((HP3.out.block w.heap.size (lt_of_block HBY.out) (fun h => h)).trans HBY.out); have HQ3 := As.mk ((HP3.out.block (w.heap.size + 1) (lt_of_block HQY.out) (fun h => h)).trans HQY.out); have HU3 := As.mk (HUY.out.trans HP3.out (fun _ _ h => h)); clear hu)
        refine hK.out _ _ (by with_reducible (first | exact HKX.out _ HUY.out.drew | exact HKX.out _ HU3.out)) (fun hHeld => ?_)
        clear hK K
        (try simp only [Act.put, List.setIfInBounds_toArray, List.set_cons_zero, List.set_cons_succ])
        refine zH 9 ?_
        (try simp only [Act.put, List.setIfInBounds_toArray, List.set_cons_zero, List.set_cons_succ])
        refine zH 10 ?_
        refine wpAnyH_done (by kernel_rfl) ?_ _
        go_wp2
        have HP30 := As.mk (show Pure w3 w3.drew from (Upd.refl _ _).drew)
        refine wp_region_held_drew (S := (fun v => v.cell? ⟨bA, oA + x2 * 4, none⟩ = some (.int .i64 2) ∧ v.cell? ⟨bA, oA + x2 * 4 + 1, none⟩ = some (.int .i64 0) ∧ v.cell? ⟨bA, oA + x2 * 4 + 2, none⟩ = some (.int .i64 0) ∧ v.cell? ⟨bA, oA + x2 * 4 + 3, none⟩ = some (.int .i64 0) ∧ v.cell? ⟨bA, oA + pp * 4, none⟩ = some (.int .i64 z.k) ∧ v.cell? ⟨bA, oA + pp * 4 + 1, none⟩ = some (.int .i64 z.t) ∧ v.cell? ⟨bA, oA + pp * 4 + 2, none⟩ = some (.int .i64 z.n) ∧ v.cell? ⟨bA, oA + pp * 4 + 3, none⟩ = some (.int .i64 z.m) ∧ v.cell? ⟨bA, oA + li * 4, none⟩ = some (.int .i64 yl.k) ∧ v.cell? ⟨bA, oA + li * 4 + 1, none⟩ = some (.int .i64 yl.t) ∧ v.cell? ⟨bA, oA + li * 4 + 2, none⟩ = some (.int .i64 yl.n) ∧ v.cell? ⟨bA, oA + li * 4 + 3, none⟩ = some (.int .i64 yl.m))) (by kernel_rfl) ?_ (fun hHeld => ?_)
        · with_reducible (first | exact HKY.out _ HU3.out.drew | exact HKY.out _ HU4.out | exact HKY.out _ HU5.out)
        refine zH 0 ?_
        refine zH 1 ?_
        refine zH 2 ?_
        (try simp only [Act.put, List.setIfInBounds_toArray, List.set_cons_zero, List.set_cons_succ])
        refine zH 3 ?_
        refine zH 4 ?_
        refine zH 5 ?_
        refine zH 6 ?_
        (try simp only [Act.put, List.setIfInBounds_toArray, List.set_cons_zero, List.set_cons_succ])
        refine wpAnyH_ready (rs := [7]) (by kernel_rfl) (by simp) (AllReadyH.cons (o := { dst := (some 54), op := (Go.Op.call { callee := (Go.Callee.value (Go.Operand.func 112)), args := #[], argTypes := #[] }), type := 71, pos := "nest.go:142", after := #[{ on := 2, ground := Go.Ground.chain }, { on := 2, ground := Go.Ground.guard }], guard := (some (2, true)) }) rfl (fun K hK => ?_) AllReadyH.nil)
        go_simp
        (first | (go_at_call 108; refine (H1.out w4 HU4.out).mono ?_; rintro r w5 ⟨rfl, hu⟩; have HP5 := As.mk hu; have HB5 := As.mk ((HP5.out.block w.heap.size (lt_of_block HB4.out) (fun h => h)).trans HB4.out); have HQ5 := As.mk ((HP5.out.block (w.heap.size + 1) (lt_of_block HQ4.out) (fun h => h)).trans HQ4.out); have HU5 := As.mk (HU4.out.trans HP5.out (fun _ _ h => h)); clear hu) | (go_at_call 112; refine (nshut_calls _).mono ?_; rintro r w4 ⟨rfl, hu⟩; have HP4 := As.mk (HP30.out.trans hu (fun _ _ h => h)); have HB4 := As.mk ((HP4.out.block w.heap.size (lt_of_block HB3.out) (fun h => h)).trans HB3.out); have HQ4 := As.mk ((HP4.out.block (w.heap.size + 1) (lt_of_block HQ3.out) (fun h => h)).trans HQ3.out); have HU4 := As.mk (HU3.out.trans HP4.out (fun _ _ h => h)); clear hu))
        refine hK.out _ _ (by with_reducible (first | exact HKY.out _ HU3.out.drew | exact HKY.out _ HU4.out | exact HKY.out _ HU5.out)) (fun hHeld => ?_)
        clear hK K
        (try simp only [Act.put, List.setIfInBounds_toArray, List.set_cons_zero, List.set_cons_succ])
        refine zH 8 ?_
        refine zH 9 ?_
        refine zH 10 ?_
        (try simp only [Act.put, List.setIfInBounds_toArray, List.set_cons_zero, List.set_cons_succ])
        refine zH 11 ?_
        refine zH 12 ?_
        refine zH 13 ?_
        refine zH 17 ?_
        (try simp only [Act.put, List.setIfInBounds_toArray, List.set_cons_zero, List.set_cons_succ])
        refine zH 18 ?_
        refine zH 19 ?_
        refine zH 20 ?_
        refine wpAnyH_ready (rs := [14]) (by kernel_rfl) (by simp) (AllReadyH.cons (o := { dst := (some 61), op := (Go.Op.call { callee := (Go.Callee.value (Go.Operand.func 108)), args := #[(Go.Operand.tmp 59), (Go.Operand.tmp 60)], argTypes := #[22, 3] }), type := 3, pos := "nest.go:142", after := #[{ on := 12, ground := Go.Ground.data }, { on := 13, ground := Go.Ground.data }, { on := 10, ground := Go.Ground.chain }, { on := 10, ground := Go.Ground.guard }], guard := (some (10, true)) }) rfl (fun K hK => ?_) AllReadyH.nil)
        go_simp
        (first | (go_at_call 108; refine (H1.out w4 HU4.out).mono ?_; rintro r w5 ⟨rfl, hu⟩; have HP5 := As.mk hu; have HB5 := As.mk ((HP5.out.block w.heap.size (lt_of_block HB4.out) (fun h => h)).trans HB4.out); have HQ5 := As.mk ((HP5.out.block (w.heap.size + 1) (lt_of_block HQ4.out) (fun h => h)).trans HQ4.out); have HU5 := As.mk (HU4.out.trans HP5.out (fun _ _ h => h)); clear hu) | (go_at_call 112; refine (nshut_calls _).mono ?_; rintro r w4 ⟨rfl, hu⟩; have HP4 := As.mk (HP30.out.trans hu (fun _ _ h => h)); have HB4 := As.mk ((HP4.out.block w.heap.size (lt_of_block HB3.out) (fun h => h)).trans HB3.out); have HQ4 := As.mk ((HP4.out.block (w.heap.size + 1) (lt_of_block HQ3.out) (fun h => h)).trans HQ3.out); have HU4 := As.mk (HU3.out.trans HP4.out (fun _ _ h => h)); clear hu))
        refine hK.out _ _ (by with_reducible (first | exact HKY.out _ HU3.out.drew | exact HKY.out _ HU4.out | exact HKY.out _ HU5.out)) (fun hHeld => ?_)
        clear hK K
        (try simp only [Act.put, List.setIfInBounds_toArray, List.set_cons_zero, List.set_cons_succ])
        refine zH 15 ?_
        refine zH 16 ?_
        refine zH 21 ?_
        refine zH 22 ?_
        (try simp only [Act.put, List.setIfInBounds_toArray, List.set_cons_zero, List.set_cons_succ])
        refine wpAnyH_done (by kernel_rfl) ?_ _
        obtain ⟨wz, rfl⟩ : ∃ wz : World, wz = w5 := ⟨_, rfl⟩
        have HBZ := HB5
        have HQZ := HQ5
        have HUZ := HU5
        have HK8 := As.mk (fun v (hu : Upd (fun k => k = w.heap.size) wz v) => cells2 ((hu.block (w.heap.size + 1) (lt_of_block HQZ.out) (by omega)).trans HQZ.out))
        have HPz := As.mk (show Pure wz wz.drew from (Upd.refl _ _).drew)
        go_wp2
        have HK9 := As.mk (fun v (hu : Upd (fun k => k = w.heap.size) wz v) => (by obtain ⟨d0, d1⟩ := HK8.out v hu; obtain ⟨g0, g1, g2, g3⟩ := HKL.out wz HUZ.out; have hb9 : bA < wz.heap.size := Nat.lt_of_lt_of_le HBA.out HUZ.out.size; have hne : bA ≠ w.heap.size := (by have := HBA.out; omega); have hh : ∀ k, v.cell? ⟨bA, k, none⟩ = wz.cell? ⟨bA, k, none⟩ := (fun k => hu.cell hb9 hne); exact ⟨d0, d1, (hh _).trans g0, (hh _).trans g1, (hh _).trans g2, (hh _).trans g3⟩ : (fun v => v.cell? ⟨w.heap.size + 1, 0, none⟩ = some (.pointer (some ⟨cb, 0, none⟩)) ∧ v.cell? ⟨w.heap.size + 1, 1, none⟩ = some (.slice (some ⟨bA, oA, none⟩) l.length c) ∧ v.cell? ⟨bA, oA + li * 4, none⟩ = some (.int .i64 yl.k) ∧ v.cell? ⟨bA, oA + li * 4 + 1, none⟩ = some (.int .i64 yl.t) ∧ v.cell? ⟨bA, oA + li * 4 + 2, none⟩ = some (.int .i64 yl.n) ∧ v.cell? ⟨bA, oA + li * 4 + 3, none⟩ = some (.int .i64 yl.m)) v))
        refine wp_region_T (P := Tryz.prog) (fun v => v.cell? ⟨w.heap.size + 1, 0, none⟩ = some (.pointer (some ⟨cb, 0, none⟩)) ∧ v.cell? ⟨w.heap.size + 1, 1, none⟩ = some (.slice (some ⟨bA, oA, none⟩) l.length c) ∧ v.cell? ⟨bA, oA + li * 4, none⟩ = some (.int .i64 yl.k) ∧ v.cell? ⟨bA, oA + li * 4 + 1, none⟩ = some (.int .i64 yl.t) ∧ v.cell? ⟨bA, oA + li * 4 + 2, none⟩ = some (.int .i64 yl.n) ∧ v.cell? ⟨bA, oA + li * 4 + 3, none⟩ = some (.int .i64 yl.m)) 18 (by kernel_rfl) ?_ (fun hHeld => ?_)
        · with_reducible (first | exact HK9.out _ (up1 HPz.out) | exact HK9.out _ (up1 HPa.out) | exact HK9.out _ (up1 HPb.out) | exact HK9.out _ (up1 HPc.out) | exact HK9.out _ (up1 (HPc.out.alloc _)) | exact HK9.out _ (up1 HP9.out) | exact HK9.out _ (set8_upd (up1 HP9.out) _ _ _ _ _ _ _ _))
        refine zT 0 ?_
        refine zT 1 ?_
        refine zT 2 ?_
        refine zT 3 ?_
        (try simp only [Act.put, List.setIfInBounds_toArray, List.set_cons_zero, List.set_cons_succ])
        refine zT 4 ?_
        refine zT 5 ?_
        refine zT 7 ?_
        refine zT 8 ?_
        (try simp only [Act.put, List.setIfInBounds_toArray, List.set_cons_zero, List.set_cons_succ])
        refine zT 9 ?_
        refine zT 10 ?_
        refine oT 6 (fun K hK => ?_)
        go_simp
        (go_at_call 114; refine (nmove_calls _ _ _ _ _ _).mono ?_; rintro r wa ⟨rfl, hu⟩; have HPa := As.mk (HPz.out.trans hu (fun _ _ h => h)); clear hu)
        refine hK.out _ _ (fun _ => by with_reducible (first | exact HK9.out _ (up1 HPz.out) | exact HK9.out _ (up1 HPa.out) | exact HK9.out _ (up1 HPb.out) | exact HK9.out _ (up1 HPc.out) | exact HK9.out _ (up1 (HPc.out.alloc _)) | exact HK9.out _ (up1 HP9.out) | exact HK9.out _ (set8_upd (up1 HP9.out) _ _ _ _ _ _ _ _))) (fun hHeld => ?_)
        replace hHeld := hHeld (by decide)
        clear hK K
        (try simp only [Act.put, List.setIfInBounds_toArray, List.set_cons_zero, List.set_cons_succ])
        refine oT 11 (fun K hK => ?_)
        go_simp
        (go_at_call 112; refine (nshut_calls _).mono ?_; rintro r wb ⟨rfl, hu⟩; have HPb := As.mk (HPa.out.trans hu (fun _ _ h => h)); clear hu)
        refine hK.out _ _ (fun _ => by with_reducible (first | exact HK9.out _ (up1 HPz.out) | exact HK9.out _ (up1 HPa.out) | exact HK9.out _ (up1 HPb.out) | exact HK9.out _ (up1 HPc.out) | exact HK9.out _ (up1 (HPc.out.alloc _)) | exact HK9.out _ (up1 HP9.out) | exact HK9.out _ (set8_upd (up1 HP9.out) _ _ _ _ _ _ _ _))) (fun hHeld => ?_)
        replace hHeld := hHeld (by decide)
        clear hK K
        (try simp only [Act.put, List.setIfInBounds_toArray, List.set_cons_zero, List.set_cons_succ])
        refine oT 12 (fun K hK => ?_)
        go_simp
        (go_at_call 112; refine (nshut_calls _).mono ?_; rintro r wc ⟨rfl, hu⟩; have HPc := As.mk (HPb.out.trans hu (fun _ _ h => h)); clear hu)
        refine hK.out _ _ (fun _ => by with_reducible (first | exact HK9.out _ (up1 HPz.out) | exact HK9.out _ (up1 HPa.out) | exact HK9.out _ (up1 HPb.out) | exact HK9.out _ (up1 HPc.out) | exact HK9.out _ (up1 (HPc.out.alloc _)) | exact HK9.out _ (up1 HP9.out) | exact HK9.out _ (set8_upd (up1 HP9.out) _ _ _ _ _ _ _ _))) (fun hHeld => ?_)
        replace hHeld := hHeld (by decide)
        clear hK K
        (try simp only [Act.put, List.setIfInBounds_toArray, List.set_cons_zero, List.set_cons_succ])
        refine oT 13 (fun K hK => ?_)
        go_simp
        refine hK.out _ _ (fun _ => by with_reducible (first | exact HK9.out _ (up1 HPz.out) | exact HK9.out _ (up1 HPa.out) | exact HK9.out _ (up1 HPb.out) | exact HK9.out _ (up1 HPc.out) | exact HK9.out _ (up1 (HPc.out.alloc _)) | exact HK9.out _ (up1 HP9.out) | exact HK9.out _ (set8_upd (up1 HP9.out) _ _ _ _ _ _ _ _))) (fun hHeld => ?_)
        replace hHeld := hHeld (by decide)
        clear hK K
        (try simp only [Act.put, List.setIfInBounds_toArray, List.set_cons_zero, List.set_cons_succ])
        refine oT 14 (fun K hK => ?_)
        go_simp
        (go_at_call 113; refine (HT.out (wc.alloc _) (some ⟨wc.heap.size, 0, none⟩) 3 ((HUZ.out.trans HPc.out (fun _ _ h => h)).alloc _) (row_toks (l := [yl, shutT, shutT]) (heap_alloc_new wc _) trivial)).mono ?_; rintro r w9 ⟨B9, c9, ⟨rfl, hp9⟩, hr9, hn9⟩; have HV9 := As.mk (fun o => (HUZ.out.trans HPc.out (fun _ _ h => h)).alloc o); have HL9 := As.mk (show w.heap.size < wc.heap.size + 1 from by have h7 := HPc.out.size; have h8 := lt_of_block HBZ.out; omega); have HT9 := As.mk hp9; have HR9 := As.mk hr9; have HN9 := As.mk hn9; have HP9 := As.mk ((HPc.out.alloc _).trans hp9 (fun _ _ h => h)); have HB9 := As.mk ((HP9.out.block w.heap.size (lt_of_block HBZ.out) (fun h => h)).trans HBZ.out); have hbl9 : w.heap.size < w9.heap.size := lt_of_block HB9.out; have hcf9 : ∀ i, w9.frozen? ⟨w.heap.size, i, none⟩ = false := (fun i => by simp [World.frozen?, HB9.out]); obtain ⟨k0, k1, k2, k3, k4, k5, k6, k7⟩ := cells8 HB9.out; clear hp9 hr9 hn9)
        refine hK.out _ _ (fun _ => by with_reducible (first | exact HK9.out _ (up1 HPz.out) | exact HK9.out _ (up1 HPa.out) | exact HK9.out _ (up1 HPb.out) | exact HK9.out _ (up1 HPc.out) | exact HK9.out _ (up1 (HPc.out.alloc _)) | exact HK9.out _ (up1 HP9.out) | exact HK9.out _ (set8_upd (up1 HP9.out) _ _ _ _ _ _ _ _))) (fun hHeld => ?_)
        replace hHeld := hHeld (by decide)
        clear hK K
        (try simp only [Act.put, List.setIfInBounds_toArray, List.set_cons_zero, List.set_cons_succ])
        refine zT 15 ?_
        (try simp only [Act.put, List.setIfInBounds_toArray, List.set_cons_zero, List.set_cons_succ])
        refine zT 16 ?_
        refine oT 17 (fun K hK => ?_)
        go_simp
        refine hK.out _ _ (fun _ => by with_reducible (first | exact HK9.out _ (up1 HPz.out) | exact HK9.out _ (up1 HPa.out) | exact HK9.out _ (up1 HPb.out) | exact HK9.out _ (up1 HPc.out) | exact HK9.out _ (up1 (HPc.out.alloc _)) | exact HK9.out _ (up1 HP9.out) | exact HK9.out _ (set8_upd (up1 HP9.out) _ _ _ _ _ _ _ _))) (fun hHeld => ?_)
        replace hHeld := hHeld (by decide)
        clear hK K
        (try simp only [Act.put, List.setIfInBounds_toArray, List.set_cons_zero, List.set_cons_succ])
        refine oT 18 (fun K hK => ?_)
        go_simp
        refine hK.out _ _ (fun h => absurd rfl h) (fun hHeld => ?_)
        clear hK K
        (try simp only [Act.put, List.setIfInBounds_toArray, List.set_cons_zero, List.set_cons_succ])
        refine wpAnyT_done (by kernel_rfl) ?_ _
        go_wp2
        exact bodyPost_ret (step_end (rb := w.heap.size) rfl _ rfl (set8 (rb := w.heap.size) HB9.out _ _ _ _ _ _ _ _)) rfl ⟨B9, c9, ⟨rfl, set8_pure ((HV9.out _).trans HT9.out (fun _ _ h => h)) (Nat.le_refl _) _ _ _ _ _ _ _ _⟩, ⟨Rp.row_fp (Rp.row_upd HR9.out.1 (set8_upd (Upd.refl _ _) _ _ _ _ _ _ _ _) (fun k _ h e => by have h7 := HL9.out; simp at h; omega)) (fun k h => by have h7 := HL9.out; simp at h; omega), HR9.out.2⟩, HN9.out⟩
end Go.Proofs.YtfapglhdakhbeaaGreatDoor
