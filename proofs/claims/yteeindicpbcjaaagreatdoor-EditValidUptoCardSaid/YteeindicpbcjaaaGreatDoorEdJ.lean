/- edit.Join, refused. (printed by gen/gen_edj.py) -/
import Derived.Test.YteeindicpbcjaaaGreatDoorEdS
import Derived.Test.YteeindicpbcjaaaGreatDoorAlikeE
namespace Go.Proofs.YteeindicpbcjaaaGreatDoor
open Go.RowKit
set_option linter.unusedVariables false
set_option linter.unusedSimpArgs false

set_option maxRecDepth 100000 in
set_option maxHeartbeats 4000000 in
theorem Join_far {w : World} {cb : Nat} {A : Option Addr} {c n : Nat} {p pe e : Int}
    (hp : ∀ W, Pure w W → Calls Tryz.prog 38 #[deskV cb A n c, .int .i64 p, .int .i64 p] W (fun r w' => r = .returned (.int .i64 pe) ∧ Pure W w'))
    (hn : (pe ≠ 0 ∧ e = pe) ∨ (pe = 0 ∧ p = 0 ∧ e = 6) ∨ (pe = 0 ∧ p ≠ 0 ∧ p = (n : Int) ∧ e = 6)) :
    Calls Tryz.prog 27 #[.pointer (some ⟨cb, 0, none⟩), .slice A n c, .int .i64 p] w (Told (repl 0 0 []) none 0 e w) := by
  have HP := As.mk hp
  clear hp
  unfold Told StepD.val repl at *
  rcases hn with ⟨p0, rfl⟩ | ⟨rfl, rfl, rfl⟩ | ⟨rfl, p1, rfl, rfl⟩
  · have f0 : (e != 0) = true := by simpa using p0
    clear p0
    go_enter Tryz.func27, Tryz.ntmps27
    go_wp2_with (first | (go_at_call 39; refine (refuse_calls _).mono ?_; rintro r w2 ⟨rfl, hu⟩; have HB2 := As.mk ((hu.block w.heap.size (lt_of_block HB1.out) (fun h => h)).trans HB1.out); have HU2 := As.mk (HU1.out.trans hu (fun _ _ h => h)); clear hu; apply As.out) | (go_at_call 38; refine (HP.out _ ((Upd.alloc1 (fun _ => False) _ _).alloc _)).mono ?_; rintro r w1 ⟨rfl, hu⟩; obtain ⟨hb1, hb2, hu2⟩ := two_up hu; obtain ⟨q0, q1⟩ := cells2 hb2; have HB1 := As.mk hb1; have HQ1 := As.mk hb2; have HU1 := As.mk hu2; clear hu hb1 hb2 hu2))
    refine ⟨?_⟩
    have hbl : w.heap.size < w2.heap.size := (Array.getElem?_eq_some_iff.1 HB2.out).1
    have hcf : ∀ i, w2.frozen? ⟨w.heap.size, i, none⟩ = false := fun i => by simp [World.frozen?, HB2.out]
    obtain ⟨k0, k1, k2, k3, k4, k5, k6, k7⟩ := cells8 HB2.out
    go_wp2
    exact bodyPost_ret (step_end (rb := w.heap.size) rfl _ rfl (set8 (rb := w.heap.size) HB2.out _ _ _ _ _ _ _ _)) rfl ⟨rfl, set8_pure HU2.out (Nat.le_refl _) _ _ _ _ _ _ _ _⟩
  · go_enter Tryz.func27, Tryz.ntmps27
    go_wp2_with (go_at_call 38; refine (HP.out _ ((Upd.alloc1 (fun _ => False) _ _).alloc _)).mono ?_; rintro r w1 ⟨rfl, hu⟩; obtain ⟨hb1, hb2, hu2⟩ := two_up hu; obtain ⟨q0, q1⟩ := cells2 hb2; have HB1 := As.mk hb1; have HQ1 := As.mk hb2; have HU1 := As.mk hu2; clear hu hb1 hb2 hu2)
    refine wp_region_held_drew (S := (fun _ => True)) (by kernel_rfl) ?_ (fun hHeld => ?_)
    · trivial
    refine zH 0 ?_
    refine zH 1 ?_
    refine zH 2 ?_
    refine sH 3 ?_
    (try simp only [Act.put, List.setIfInBounds_toArray, List.set_cons_zero, List.set_cons_succ])
    refine sH 4 ?_
    refine sH 5 ?_
    refine sH 6 ?_
    refine zH 7 ?_
    (try simp only [Act.put, List.setIfInBounds_toArray, List.set_cons_zero, List.set_cons_succ])
    refine zH 8 ?_
    refine sH 9 ?_
    refine sH 10 ?_
    refine sH 11 ?_
    (try simp only [Act.put, List.setIfInBounds_toArray, List.set_cons_zero, List.set_cons_succ])
    refine sH 12 ?_
    refine sH 13 ?_
    refine sH 14 ?_
    refine sH 15 ?_
    (try simp only [Act.put, List.setIfInBounds_toArray, List.set_cons_zero, List.set_cons_succ])
    refine zH 16 ?_
    refine zH 17 ?_
    refine sH 18 ?_
    refine sH 19 ?_
    (try simp only [Act.put, List.setIfInBounds_toArray, List.set_cons_zero, List.set_cons_succ])
    refine sH 20 ?_
    refine sH 21 ?_
    refine sH 22 ?_
    refine sH 23 ?_
    (try simp only [Act.put, List.setIfInBounds_toArray, List.set_cons_zero, List.set_cons_succ])
    refine zH 24 ?_
    refine wpAnyH_done (by kernel_rfl) ?_ _
    go_wp2_with (go_at_call 39; refine (refuse_calls _).mono ?_; rintro r w2 ⟨rfl, hu⟩; have HB2 := As.mk ((hu.block w.heap.size (lt_of_block HB1.out) (fun h => h)).trans HB1.out); have HU2 := As.mk (HU1.out.drew.trans hu (fun _ _ h => h)); clear hu; apply As.out)
    refine ⟨?_⟩
    have hbl : w.heap.size < w2.heap.size := (Array.getElem?_eq_some_iff.1 HB2.out).1
    have hcf : ∀ i, w2.frozen? ⟨w.heap.size, i, none⟩ = false := fun i => by simp [World.frozen?, HB2.out]
    obtain ⟨k0, k1, k2, k3, k4, k5, k6, k7⟩ := cells8 HB2.out
    go_wp2
    exact bodyPost_ret (step_end (rb := w.heap.size) rfl _ rfl (set8 (rb := w.heap.size) HB2.out _ _ _ _ _ _ _ _)) rfl ⟨rfl, set8_pure HU2.out (Nat.le_refl _) _ _ _ _ _ _ _ _⟩
  · have j1 : ((n : Int) == 0) = false := by simpa using p1
    have j2 : (n == 0) = false := by simp; omega
    clear p1
    go_enter Tryz.func27, Tryz.ntmps27
    go_wp2_with (go_at_call 38; refine (HP.out _ ((Upd.alloc1 (fun _ => False) _ _).alloc _)).mono ?_; rintro r w1 ⟨rfl, hu⟩; obtain ⟨hb1, hb2, hu2⟩ := two_up hu; obtain ⟨q0, q1⟩ := cells2 hb2; have HB1 := As.mk hb1; have HQ1 := As.mk hb2; have HU1 := As.mk hu2; clear hu hb1 hb2 hu2)
    refine wp_region_held_drew (S := (fun _ => True)) (by kernel_rfl) ?_ (fun hHeld => ?_)
    · trivial
    refine zH 0 ?_
    refine zH 1 ?_
    refine zH 2 ?_
    (try simp only [Act.put, List.setIfInBounds_toArray, List.set_cons_zero, List.set_cons_succ])
    refine zH 3 ?_
    refine zH 4 ?_
    refine zH 5 ?_
    refine zH 6 ?_
    (try simp only [Act.put, List.setIfInBounds_toArray, List.set_cons_zero, List.set_cons_succ])
    refine zH 7 ?_
    refine zH 8 ?_
    refine sH 9 ?_
    refine sH 10 ?_
    (try simp only [Act.put, List.setIfInBounds_toArray, List.set_cons_zero, List.set_cons_succ])
    refine sH 11 ?_
    refine sH 12 ?_
    refine sH 13 ?_
    refine sH 14 ?_
    (try simp only [Act.put, List.setIfInBounds_toArray, List.set_cons_zero, List.set_cons_succ])
    refine sH 15 ?_
    refine zH 16 ?_
    refine zH 17 ?_
    refine sH 18 ?_
    (try simp only [Act.put, List.setIfInBounds_toArray, List.set_cons_zero, List.set_cons_succ])
    refine sH 19 ?_
    refine sH 20 ?_
    refine sH 21 ?_
    refine sH 22 ?_
    (try simp only [Act.put, List.setIfInBounds_toArray, List.set_cons_zero, List.set_cons_succ])
    refine sH 23 ?_
    refine zH 24 ?_
    refine wpAnyH_done (by kernel_rfl) ?_ _
    go_wp2_with (go_at_call 39; refine (refuse_calls _).mono ?_; rintro r w2 ⟨rfl, hu⟩; have HB2 := As.mk ((hu.block w.heap.size (lt_of_block HB1.out) (fun h => h)).trans HB1.out); have HU2 := As.mk (HU1.out.drew.trans hu (fun _ _ h => h)); clear hu; apply As.out)
    refine ⟨?_⟩
    have hbl : w.heap.size < w2.heap.size := (Array.getElem?_eq_some_iff.1 HB2.out).1
    have hcf : ∀ i, w2.frozen? ⟨w.heap.size, i, none⟩ = false := fun i => by simp [World.frozen?, HB2.out]
    obtain ⟨k0, k1, k2, k3, k4, k5, k6, k7⟩ := cells8 HB2.out
    go_wp2
    exact bodyPost_ret (step_end (rb := w.heap.size) rfl _ rfl (set8 (rb := w.heap.size) HB2.out _ _ _ _ _ _ _ _)) rfl ⟨rfl, set8_pure HU2.out (Nat.le_refl _) _ _ _ _ _ _ _ _⟩
set_option maxRecDepth 100000 in
set_option maxHeartbeats 4000000 in
theorem Join_left {w : World} {F : Nat → Prop} {cb b o : Nat} {c : Nat} {l : List Tok} {q m : Nat} {x : Tok} (hrow : tokR.row w F (some ⟨b, o, none⟩) l) (hm : m = q + 1) (hq : l[q]? = some x) (hx : x ≠ shutT) (hml : m ≠ l.length) (hb : l.length ≤ 1048576 * 4)
    (hp : ∀ W, Pure w W → Calls Tryz.prog 38 #[deskV cb (some ⟨b, o, none⟩) l.length c, .int .i64 (m : Nat), .int .i64 (m : Nat)] W (fun r w' => r = .returned (.int .i64 0) ∧ Pure W w')) :
    Calls Tryz.prog 27 #[.pointer (some ⟨cb, 0, none⟩), .slice (some ⟨b, o, none⟩) l.length c, .int .i64 (m : Nat)] w (Told (repl 0 0 []) none 0 6 w) := by
  have HP := As.mk hp
  obtain ⟨b1, o1, hA, hF, hbl0, c0, c1, c2, c3⟩ := tok_at hrow hq
  cases hA
  have HBL := As.mk hbl0
  have HCS := As.mk (And.intro c0 (And.intro c1 (And.intro c2 c3)))
  have hql := (List.getElem?_eq_some_iff.1 hq).1
  have j1 : ((m : Int) == 0) = false := by simp; omega
  have j2 : ((m : Int) == (l.length : Int)) = false := by simp; omega
  have j3 : (m == l.length) = false := by simpa using hml
  have j4 : (m == 0) = false := by simp; omega
  have i3 : q < l.length := hql
  have hw1 : IntKind.i64.wrap ((m : Int) - 1) = (q : Int) := by rw [IntWalk.i64_in _ (by omega)]; omega
  have hne := tok_diff hx
  clear hp hrow hq hF hbl0 c0 c1 c2 c3 hm hql hml hx
  unfold Told StepD.val repl at *
  rcases hne with h9 | ⟨h8, h9⟩ | ⟨h8, h7, h9⟩ | ⟨h8, h7, h6, h9⟩
  · have n1 : (x.k == 2) = false := by simpa [shutT] using h9
    clear h9
    go_enter Tryz.func27, Tryz.ntmps27
    go_wp2_with (go_at_call 38; refine (HP.out _ ((Upd.alloc1 (fun _ => False) _ _).alloc _)).mono ?_; rintro r w1 ⟨rfl, hu⟩; obtain ⟨hb1, hb2, hu2⟩ := two_up hu; obtain ⟨q0, q1⟩ := cells2 hb2; have HB1 := As.mk hb1; have HQ1 := As.mk hb2; have HU1 := As.mk hu2; clear hu hb1 hb2 hu2)
    have HK8 := As.mk (fun v (hu : Pure w1 v) => (by
      obtain ⟨e0, e1, e2, e3⟩ := HCS.out
      have hb9 := HBL.out
      have hh : ∀ k, v.cell? ⟨b, k, none⟩ = w.cell? ⟨b, k, none⟩ := fun k => (hu.cell (Nat.lt_of_lt_of_le hb9 HU1.out.size) (fun h => h)).trans (HU1.out.cell hb9 (fun h => h))
      exact ⟨(hh _).trans e0, (hh _).trans e1, (hh _).trans e2, (hh _).trans e3⟩ : (fun v => v.cell? ⟨b, o + q * 4, none⟩ = some (.int .i64 x.k) ∧ v.cell? ⟨b, o + q * 4 + 1, none⟩ = some (.int .i64 x.t) ∧ v.cell? ⟨b, o + q * 4 + 2, none⟩ = some (.int .i64 x.n) ∧ v.cell? ⟨b, o + q * 4 + 3, none⟩ = some (.int .i64 x.m)) v))
    refine wp_region_held_drew (S := (fun v => v.cell? ⟨b, o + q * 4, none⟩ = some (.int .i64 x.k) ∧ v.cell? ⟨b, o + q * 4 + 1, none⟩ = some (.int .i64 x.t) ∧ v.cell? ⟨b, o + q * 4 + 2, none⟩ = some (.int .i64 x.n) ∧ v.cell? ⟨b, o + q * 4 + 3, none⟩ = some (.int .i64 x.m))) (by kernel_rfl) ?_ (fun hHeld => ?_)
    · with_reducible (first | exact HK8.out _ (Upd.refl _ _).drew | exact HK8.out _ HP3.out)
    refine zH 0 ?_
    refine zH 1 ?_
    (try simp only [Act.put, List.setIfInBounds_toArray, List.set_cons_zero, List.set_cons_succ])
    refine zH 2 ?_
    refine zH 3 ?_
    refine zH 4 ?_
    refine zH 5 ?_
    (try simp only [Act.put, List.setIfInBounds_toArray, List.set_cons_zero, List.set_cons_succ])
    refine zH 6 ?_
    refine zH 7 ?_
    refine zH 8 ?_
    refine zH 9 ?_
    (try simp only [Act.put, List.setIfInBounds_toArray, List.set_cons_zero, List.set_cons_succ])
    refine zH 10 ?_
    refine zH 11 ?_
    refine zH 12 ?_
    refine zH 13 ?_
    (try simp only [Act.put, List.setIfInBounds_toArray, List.set_cons_zero, List.set_cons_succ])
    refine wpAnyH_ready (rs := [14]) (by kernel_rfl) (by simp) (AllReadyH.cons (o := { dst := (some 37), op := (Go.Op.call { callee := (Go.Callee.value (Go.Operand.func 51)), args := #[], argTypes := #[] }), type := 40, pos := "edit.go:88", after := #[{ on := 8, ground := Go.Ground.chain }, { on := 8, ground := Go.Ground.guard }], guard := (some (8, false)) }) rfl (fun K hK => ?_) AllReadyH.nil)
    go_simp
    (go_at_call 51; refine (shut_calls _).mono ?_; rintro r w3 ⟨rfl, hu3⟩; have HP3 := As.mk ((Upd.refl _ _).drew.trans hu3 (fun _ _ h => h)); have HU3 := As.mk (HU1.out.trans HP3.out (fun _ _ h => h)); have HB3 := As.mk ((HP3.out.block w.heap.size (lt_of_block HB1.out) (fun h => h)).trans HB1.out); clear hu3)
    refine hK.out _ _ (by with_reducible (first | exact HK8.out _ (Upd.refl _ _).drew | exact HK8.out _ HP3.out)) (fun hHeld => ?_)
    clear hK K
    (try simp only [Act.put, List.setIfInBounds_toArray, List.set_cons_zero, List.set_cons_succ])
    refine zH 15 ?_
    refine zH 16 ?_
    refine zH 17 ?_
    (try simp only [Act.put, List.setIfInBounds_toArray, List.set_cons_zero, List.set_cons_succ])
    refine sH 18 ?_
    refine sH 19 ?_
    refine sH 20 ?_
    refine sH 21 ?_
    (try simp only [Act.put, List.setIfInBounds_toArray, List.set_cons_zero, List.set_cons_succ])
    refine sH 22 ?_
    refine sH 23 ?_
    refine zH 24 ?_
    refine wpAnyH_done (by kernel_rfl) ?_ _
    go_wp2_with (go_at_call 39; refine (refuse_calls _).mono ?_; rintro r w2 ⟨rfl, hu⟩; have HB2 := As.mk ((hu.block w.heap.size (lt_of_block HB3.out) (fun h => h)).trans HB3.out); have HU2 := As.mk (HU3.out.trans hu (fun _ _ h => h)); clear hu; apply As.out)
    refine ⟨?_⟩
    have hbl : w.heap.size < w2.heap.size := (Array.getElem?_eq_some_iff.1 HB2.out).1
    have hcf : ∀ i, w2.frozen? ⟨w.heap.size, i, none⟩ = false := fun i => by simp [World.frozen?, HB2.out]
    obtain ⟨k0, k1, k2, k3, k4, k5, k6, k7⟩ := cells8 HB2.out
    go_wp2
    exact bodyPost_ret (step_end (rb := w.heap.size) rfl _ rfl (set8 (rb := w.heap.size) HB2.out _ _ _ _ _ _ _ _)) rfl ⟨rfl, set8_pure HU2.out (Nat.le_refl _) _ _ _ _ _ _ _ _⟩
  · have n0 : x.k = 2 := h8
    have n1 : (x.t == 0) = false := by simpa [shutT] using h9
    rw [n0] at HCS
    clear h9 h8 n0
    go_enter Tryz.func27, Tryz.ntmps27
    go_wp2_with (go_at_call 38; refine (HP.out _ ((Upd.alloc1 (fun _ => False) _ _).alloc _)).mono ?_; rintro r w1 ⟨rfl, hu⟩; obtain ⟨hb1, hb2, hu2⟩ := two_up hu; obtain ⟨q0, q1⟩ := cells2 hb2; have HB1 := As.mk hb1; have HQ1 := As.mk hb2; have HU1 := As.mk hu2; clear hu hb1 hb2 hu2)
    have HK8 := As.mk (fun v (hu : Pure w1 v) => (by
      obtain ⟨e0, e1, e2, e3⟩ := HCS.out
      have hb9 := HBL.out
      have hh : ∀ k, v.cell? ⟨b, k, none⟩ = w.cell? ⟨b, k, none⟩ := fun k => (hu.cell (Nat.lt_of_lt_of_le hb9 HU1.out.size) (fun h => h)).trans (HU1.out.cell hb9 (fun h => h))
      exact ⟨(hh _).trans e0, (hh _).trans e1, (hh _).trans e2, (hh _).trans e3⟩ : (fun v => v.cell? ⟨b, o + q * 4, none⟩ = some (.int .i64 2) ∧ v.cell? ⟨b, o + q * 4 + 1, none⟩ = some (.int .i64 x.t) ∧ v.cell? ⟨b, o + q * 4 + 2, none⟩ = some (.int .i64 x.n) ∧ v.cell? ⟨b, o + q * 4 + 3, none⟩ = some (.int .i64 x.m)) v))
    refine wp_region_held_drew (S := (fun v => v.cell? ⟨b, o + q * 4, none⟩ = some (.int .i64 2) ∧ v.cell? ⟨b, o + q * 4 + 1, none⟩ = some (.int .i64 x.t) ∧ v.cell? ⟨b, o + q * 4 + 2, none⟩ = some (.int .i64 x.n) ∧ v.cell? ⟨b, o + q * 4 + 3, none⟩ = some (.int .i64 x.m))) (by kernel_rfl) ?_ (fun hHeld => ?_)
    · with_reducible (first | exact HK8.out _ (Upd.refl _ _).drew | exact HK8.out _ HP3.out)
    refine zH 0 ?_
    (try simp only [Act.put, List.setIfInBounds_toArray, List.set_cons_zero, List.set_cons_succ])
    refine zH 1 ?_
    refine zH 2 ?_
    refine zH 3 ?_
    refine zH 4 ?_
    (try simp only [Act.put, List.setIfInBounds_toArray, List.set_cons_zero, List.set_cons_succ])
    refine zH 5 ?_
    refine zH 6 ?_
    refine zH 7 ?_
    refine zH 8 ?_
    (try simp only [Act.put, List.setIfInBounds_toArray, List.set_cons_zero, List.set_cons_succ])
    refine zH 9 ?_
    refine zH 10 ?_
    refine zH 11 ?_
    refine zH 12 ?_
    (try simp only [Act.put, List.setIfInBounds_toArray, List.set_cons_zero, List.set_cons_succ])
    refine zH 13 ?_
    refine wpAnyH_ready (rs := [14]) (by kernel_rfl) (by simp) (AllReadyH.cons (o := { dst := (some 37), op := (Go.Op.call { callee := (Go.Callee.value (Go.Operand.func 51)), args := #[], argTypes := #[] }), type := 40, pos := "edit.go:88", after := #[{ on := 8, ground := Go.Ground.chain }, { on := 8, ground := Go.Ground.guard }], guard := (some (8, false)) }) rfl (fun K hK => ?_) AllReadyH.nil)
    go_simp
    (go_at_call 51; refine (shut_calls _).mono ?_; rintro r w3 ⟨rfl, hu3⟩; have HP3 := As.mk ((Upd.refl _ _).drew.trans hu3 (fun _ _ h => h)); have HU3 := As.mk (HU1.out.trans HP3.out (fun _ _ h => h)); have HB3 := As.mk ((HP3.out.block w.heap.size (lt_of_block HB1.out) (fun h => h)).trans HB1.out); clear hu3)
    refine hK.out _ _ (by with_reducible (first | exact HK8.out _ (Upd.refl _ _).drew | exact HK8.out _ HP3.out)) (fun hHeld => ?_)
    clear hK K
    (try simp only [Act.put, List.setIfInBounds_toArray, List.set_cons_zero, List.set_cons_succ])
    refine zH 15 ?_
    refine zH 16 ?_
    (try simp only [Act.put, List.setIfInBounds_toArray, List.set_cons_zero, List.set_cons_succ])
    refine zH 17 ?_
    refine sH 18 ?_
    refine sH 19 ?_
    refine sH 20 ?_
    (try simp only [Act.put, List.setIfInBounds_toArray, List.set_cons_zero, List.set_cons_succ])
    refine sH 21 ?_
    refine sH 22 ?_
    refine sH 23 ?_
    refine zH 24 ?_
    (try simp only [Act.put, List.setIfInBounds_toArray, List.set_cons_zero, List.set_cons_succ])
    refine wpAnyH_done (by kernel_rfl) ?_ _
    go_wp2_with (go_at_call 39; refine (refuse_calls _).mono ?_; rintro r w2 ⟨rfl, hu⟩; have HB2 := As.mk ((hu.block w.heap.size (lt_of_block HB3.out) (fun h => h)).trans HB3.out); have HU2 := As.mk (HU3.out.trans hu (fun _ _ h => h)); clear hu; apply As.out)
    refine ⟨?_⟩
    have hbl : w.heap.size < w2.heap.size := (Array.getElem?_eq_some_iff.1 HB2.out).1
    have hcf : ∀ i, w2.frozen? ⟨w.heap.size, i, none⟩ = false := fun i => by simp [World.frozen?, HB2.out]
    obtain ⟨k0, k1, k2, k3, k4, k5, k6, k7⟩ := cells8 HB2.out
    go_wp2
    exact bodyPost_ret (step_end (rb := w.heap.size) rfl _ rfl (set8 (rb := w.heap.size) HB2.out _ _ _ _ _ _ _ _)) rfl ⟨rfl, set8_pure HU2.out (Nat.le_refl _) _ _ _ _ _ _ _ _⟩
  · have n0 : x.k = 2 := h8
    have n2 : x.t = 0 := h7
    have n1 : (x.n == 0) = false := by simpa [shutT] using h9
    rw [n0, n2] at HCS
    clear h9 h8 h7 n0 n2
    go_enter Tryz.func27, Tryz.ntmps27
    go_wp2_with (go_at_call 38; refine (HP.out _ ((Upd.alloc1 (fun _ => False) _ _).alloc _)).mono ?_; rintro r w1 ⟨rfl, hu⟩; obtain ⟨hb1, hb2, hu2⟩ := two_up hu; obtain ⟨q0, q1⟩ := cells2 hb2; have HB1 := As.mk hb1; have HQ1 := As.mk hb2; have HU1 := As.mk hu2; clear hu hb1 hb2 hu2)
    have HK8 := As.mk (fun v (hu : Pure w1 v) => (by
      obtain ⟨e0, e1, e2, e3⟩ := HCS.out
      have hb9 := HBL.out
      have hh : ∀ k, v.cell? ⟨b, k, none⟩ = w.cell? ⟨b, k, none⟩ := fun k => (hu.cell (Nat.lt_of_lt_of_le hb9 HU1.out.size) (fun h => h)).trans (HU1.out.cell hb9 (fun h => h))
      exact ⟨(hh _).trans e0, (hh _).trans e1, (hh _).trans e2, (hh _).trans e3⟩ : (fun v => v.cell? ⟨b, o + q * 4, none⟩ = some (.int .i64 2) ∧ v.cell? ⟨b, o + q * 4 + 1, none⟩ = some (.int .i64 0) ∧ v.cell? ⟨b, o + q * 4 + 2, none⟩ = some (.int .i64 x.n) ∧ v.cell? ⟨b, o + q * 4 + 3, none⟩ = some (.int .i64 x.m)) v))
    refine wp_region_held_drew (S := (fun v => v.cell? ⟨b, o + q * 4, none⟩ = some (.int .i64 2) ∧ v.cell? ⟨b, o + q * 4 + 1, none⟩ = some (.int .i64 0) ∧ v.cell? ⟨b, o + q * 4 + 2, none⟩ = some (.int .i64 x.n) ∧ v.cell? ⟨b, o + q * 4 + 3, none⟩ = some (.int .i64 x.m))) (by kernel_rfl) ?_ (fun hHeld => ?_)
    · with_reducible (first | exact HK8.out _ (Upd.refl _ _).drew | exact HK8.out _ HP3.out)
    refine zH 0 ?_
    refine zH 1 ?_
    refine zH 2 ?_
    refine zH 3 ?_
    (try simp only [Act.put, List.setIfInBounds_toArray, List.set_cons_zero, List.set_cons_succ])
    refine zH 4 ?_
    refine zH 5 ?_
    refine zH 6 ?_
    refine zH 7 ?_
    (try simp only [Act.put, List.setIfInBounds_toArray, List.set_cons_zero, List.set_cons_succ])
    refine zH 8 ?_
    refine zH 9 ?_
    refine zH 10 ?_
    refine zH 11 ?_
    (try simp only [Act.put, List.setIfInBounds_toArray, List.set_cons_zero, List.set_cons_succ])
    refine zH 12 ?_
    refine zH 13 ?_
    refine wpAnyH_ready (rs := [14]) (by kernel_rfl) (by simp) (AllReadyH.cons (o := { dst := (some 37), op := (Go.Op.call { callee := (Go.Callee.value (Go.Operand.func 51)), args := #[], argTypes := #[] }), type := 40, pos := "edit.go:88", after := #[{ on := 8, ground := Go.Ground.chain }, { on := 8, ground := Go.Ground.guard }], guard := (some (8, false)) }) rfl (fun K hK => ?_) AllReadyH.nil)
    go_simp
    (go_at_call 51; refine (shut_calls _).mono ?_; rintro r w3 ⟨rfl, hu3⟩; have HP3 := As.mk ((Upd.refl _ _).drew.trans hu3 (fun _ _ h => h)); have HU3 := As.mk (HU1.out.trans HP3.out (fun _ _ h => h)); have HB3 := As.mk ((HP3.out.block w.heap.size (lt_of_block HB1.out) (fun h => h)).trans HB1.out); clear hu3)
    refine hK.out _ _ (by with_reducible (first | exact HK8.out _ (Upd.refl _ _).drew | exact HK8.out _ HP3.out)) (fun hHeld => ?_)
    clear hK K
    (try simp only [Act.put, List.setIfInBounds_toArray, List.set_cons_zero, List.set_cons_succ])
    refine zH 15 ?_
    (try simp only [Act.put, List.setIfInBounds_toArray, List.set_cons_zero, List.set_cons_succ])
    refine zH 16 ?_
    refine zH 17 ?_
    refine sH 18 ?_
    refine sH 19 ?_
    (try simp only [Act.put, List.setIfInBounds_toArray, List.set_cons_zero, List.set_cons_succ])
    refine sH 20 ?_
    refine sH 21 ?_
    refine sH 22 ?_
    refine sH 23 ?_
    (try simp only [Act.put, List.setIfInBounds_toArray, List.set_cons_zero, List.set_cons_succ])
    refine zH 24 ?_
    refine wpAnyH_done (by kernel_rfl) ?_ _
    go_wp2_with (go_at_call 39; refine (refuse_calls _).mono ?_; rintro r w2 ⟨rfl, hu⟩; have HB2 := As.mk ((hu.block w.heap.size (lt_of_block HB3.out) (fun h => h)).trans HB3.out); have HU2 := As.mk (HU3.out.trans hu (fun _ _ h => h)); clear hu; apply As.out)
    refine ⟨?_⟩
    have hbl : w.heap.size < w2.heap.size := (Array.getElem?_eq_some_iff.1 HB2.out).1
    have hcf : ∀ i, w2.frozen? ⟨w.heap.size, i, none⟩ = false := fun i => by simp [World.frozen?, HB2.out]
    obtain ⟨k0, k1, k2, k3, k4, k5, k6, k7⟩ := cells8 HB2.out
    go_wp2
    exact bodyPost_ret (step_end (rb := w.heap.size) rfl _ rfl (set8 (rb := w.heap.size) HB2.out _ _ _ _ _ _ _ _)) rfl ⟨rfl, set8_pure HU2.out (Nat.le_refl _) _ _ _ _ _ _ _ _⟩
  · have n0 : x.k = 2 := h8
    have n2 : x.t = 0 := h7
    have n3 : x.n = 0 := h6
    have n1 : (x.m == 0) = false := by simpa [shutT] using h9
    rw [n0, n2, n3] at HCS
    clear h9 h8 h7 h6 n0 n2 n3
    go_enter Tryz.func27, Tryz.ntmps27
    go_wp2_with (go_at_call 38; refine (HP.out _ ((Upd.alloc1 (fun _ => False) _ _).alloc _)).mono ?_; rintro r w1 ⟨rfl, hu⟩; obtain ⟨hb1, hb2, hu2⟩ := two_up hu; obtain ⟨q0, q1⟩ := cells2 hb2; have HB1 := As.mk hb1; have HQ1 := As.mk hb2; have HU1 := As.mk hu2; clear hu hb1 hb2 hu2)
    have HK8 := As.mk (fun v (hu : Pure w1 v) => (by
      obtain ⟨e0, e1, e2, e3⟩ := HCS.out
      have hb9 := HBL.out
      have hh : ∀ k, v.cell? ⟨b, k, none⟩ = w.cell? ⟨b, k, none⟩ := fun k => (hu.cell (Nat.lt_of_lt_of_le hb9 HU1.out.size) (fun h => h)).trans (HU1.out.cell hb9 (fun h => h))
      exact ⟨(hh _).trans e0, (hh _).trans e1, (hh _).trans e2, (hh _).trans e3⟩ : (fun v => v.cell? ⟨b, o + q * 4, none⟩ = some (.int .i64 2) ∧ v.cell? ⟨b, o + q * 4 + 1, none⟩ = some (.int .i64 0) ∧ v.cell? ⟨b, o + q * 4 + 2, none⟩ = some (.int .i64 0) ∧ v.cell? ⟨b, o + q * 4 + 3, none⟩ = some (.int .i64 x.m)) v))
    refine wp_region_held_drew (S := (fun v => v.cell? ⟨b, o + q * 4, none⟩ = some (.int .i64 2) ∧ v.cell? ⟨b, o + q * 4 + 1, none⟩ = some (.int .i64 0) ∧ v.cell? ⟨b, o + q * 4 + 2, none⟩ = some (.int .i64 0) ∧ v.cell? ⟨b, o + q * 4 + 3, none⟩ = some (.int .i64 x.m))) (by kernel_rfl) ?_ (fun hHeld => ?_)
    · with_reducible (first | exact HK8.out _ (Upd.refl _ _).drew | exact HK8.out _ HP3.out)
    refine zH 0 ?_
    refine zH 1 ?_
    refine zH 2 ?_
    (try simp only [Act.put, List.setIfInBounds_toArray, List.set_cons_zero, List.set_cons_succ])
    refine zH 3 ?_
    refine zH 4 ?_
    refine zH 5 ?_
    refine zH 6 ?_
    (try simp only [Act.put, List.setIfInBounds_toArray, List.set_cons_zero, List.set_cons_succ])
    refine zH 7 ?_
    refine zH 8 ?_
    refine zH 9 ?_
    refine zH 10 ?_
    (try simp only [Act.put, List.setIfInBounds_toArray, List.set_cons_zero, List.set_cons_succ])
    refine zH 11 ?_
    refine zH 12 ?_
    refine zH 13 ?_
    refine wpAnyH_ready (rs := [14]) (by kernel_rfl) (by simp) (AllReadyH.cons (o := { dst := (some 37), op := (Go.Op.call { callee := (Go.Callee.value (Go.Operand.func 51)), args := #[], argTypes := #[] }), type := 40, pos := "edit.go:88", after := #[{ on := 8, ground := Go.Ground.chain }, { on := 8, ground := Go.Ground.guard }], guard := (some (8, false)) }) rfl (fun K hK => ?_) AllReadyH.nil)
    go_simp
    (go_at_call 51; refine (shut_calls _).mono ?_; rintro r w3 ⟨rfl, hu3⟩; have HP3 := As.mk ((Upd.refl _ _).drew.trans hu3 (fun _ _ h => h)); have HU3 := As.mk (HU1.out.trans HP3.out (fun _ _ h => h)); have HB3 := As.mk ((HP3.out.block w.heap.size (lt_of_block HB1.out) (fun h => h)).trans HB1.out); clear hu3)
    refine hK.out _ _ (by with_reducible (first | exact HK8.out _ (Upd.refl _ _).drew | exact HK8.out _ HP3.out)) (fun hHeld => ?_)
    clear hK K
    (try simp only [Act.put, List.setIfInBounds_toArray, List.set_cons_zero, List.set_cons_succ])
    refine zH 15 ?_
    refine zH 16 ?_
    refine zH 17 ?_
    refine sH 18 ?_
    (try simp only [Act.put, List.setIfInBounds_toArray, List.set_cons_zero, List.set_cons_succ])
    refine sH 19 ?_
    refine sH 20 ?_
    refine sH 21 ?_
    refine sH 22 ?_
    (try simp only [Act.put, List.setIfInBounds_toArray, List.set_cons_zero, List.set_cons_succ])
    refine sH 23 ?_
    refine zH 24 ?_
    refine wpAnyH_done (by kernel_rfl) ?_ _
    go_wp2_with (go_at_call 39; refine (refuse_calls _).mono ?_; rintro r w2 ⟨rfl, hu⟩; have HB2 := As.mk ((hu.block w.heap.size (lt_of_block HB3.out) (fun h => h)).trans HB3.out); have HU2 := As.mk (HU3.out.trans hu (fun _ _ h => h)); clear hu; apply As.out)
    refine ⟨?_⟩
    have hbl : w.heap.size < w2.heap.size := (Array.getElem?_eq_some_iff.1 HB2.out).1
    have hcf : ∀ i, w2.frozen? ⟨w.heap.size, i, none⟩ = false := fun i => by simp [World.frozen?, HB2.out]
    obtain ⟨k0, k1, k2, k3, k4, k5, k6, k7⟩ := cells8 HB2.out
    go_wp2
    exact bodyPost_ret (step_end (rb := w.heap.size) rfl _ rfl (set8 (rb := w.heap.size) HB2.out _ _ _ _ _ _ _ _)) rfl ⟨rfl, set8_pure HU2.out (Nat.le_refl _) _ _ _ _ _ _ _ _⟩
set_option maxRecDepth 100000 in
set_option maxHeartbeats 4000000 in
theorem Join_right {w : World} {F : Nat → Prop} {cb b o : Nat} {c : Nat} {l : List Tok} {q m : Nat} {y : Tok} (hrow : tokR.row w F (some ⟨b, o, none⟩) l) (hm : m = q + 1) (hq : l[q]? = some shutT) (hy : l[m]? = some y) (hyk : y.k ≠ 1) (hb : l.length ≤ 1048576 * 4)
    (hp : ∀ W, Pure w W → Calls Tryz.prog 38 #[deskV cb (some ⟨b, o, none⟩) l.length c, .int .i64 (m : Nat), .int .i64 (m : Nat)] W (fun r w' => r = .returned (.int .i64 0) ∧ Pure W w')) :
    Calls Tryz.prog 27 #[.pointer (some ⟨cb, 0, none⟩), .slice (some ⟨b, o, none⟩) l.length c, .int .i64 (m : Nat)] w (Told (repl 0 0 []) none 0 6 w) := by
  have HP := As.mk hp
  obtain ⟨b1, o1, hA, hF, hbl0, c0, c1, c2, c3⟩ := tok_at hrow hq
  obtain ⟨b2, o2, hA2, _, _, d0, _, _, _⟩ := tok_at hrow hy
  cases hA
  cases hA2
  have ml : m < l.length := (List.getElem?_eq_some_iff.1 hy).1
  have HBL := As.mk hbl0
  have HCS := As.mk (And.intro c0 (And.intro c1 (And.intro c2 (And.intro c3 d0))))
  have i3 : q < l.length := by omega
  have j1 : ((m : Int) == 0) = false := by simp; omega
  have j2 : ((m : Int) == (l.length : Int)) = false := by simp; omega
  have j3 : (m == l.length) = false := by simp; omega
  have j4 : (m == 0) = false := by simp; omega
  have j5 : (y.k != 1) = true := by simpa using hyk
  have hw1 : IntKind.i64.wrap ((m : Int) - 1) = (q : Int) := by rw [IntWalk.i64_in _ (by omega)]; omega
  clear hp hrow hq hy hyk hF hbl0 c0 c1 c2 c3 d0 hm
  unfold Told StepD.val repl at *
  go_enter Tryz.func27, Tryz.ntmps27
  go_wp2_with (go_at_call 38; refine (HP.out _ ((Upd.alloc1 (fun _ => False) _ _).alloc _)).mono ?_; rintro r w1 ⟨rfl, hu⟩; obtain ⟨hb1, hb2, hu2⟩ := two_up hu; obtain ⟨q0, q1⟩ := cells2 hb2; have HB1 := As.mk hb1; have HQ1 := As.mk hb2; have HU1 := As.mk hu2; clear hu hb1 hb2 hu2)
  have HK8 := As.mk (fun v (hu : Pure w1 v) => (by
    obtain ⟨e0, e1, e2, e3, e4⟩ := HCS.out
    have hb9 := HBL.out
    have hh : ∀ k, v.cell? ⟨b, k, none⟩ = w.cell? ⟨b, k, none⟩ := fun k => (hu.cell (Nat.lt_of_lt_of_le hb9 HU1.out.size) (fun h => h)).trans (HU1.out.cell hb9 (fun h => h))
    exact ⟨(hh _).trans e0, (hh _).trans e1, (hh _).trans e2, (hh _).trans e3, (hh _).trans e4⟩ : (fun v => v.cell? ⟨b, o + q * 4, none⟩ = some (.int .i64 2) ∧ v.cell? ⟨b, o + q * 4 + 1, none⟩ = some (.int .i64 0) ∧ v.cell? ⟨b, o + q * 4 + 2, none⟩ = some (.int .i64 0) ∧ v.cell? ⟨b, o + q * 4 + 3, none⟩ = some (.int .i64 0) ∧ v.cell? ⟨b, o + m * 4, none⟩ = some (.int .i64 y.k)) v))
  refine wp_region_held_drew (S := (fun v => v.cell? ⟨b, o + q * 4, none⟩ = some (.int .i64 2) ∧ v.cell? ⟨b, o + q * 4 + 1, none⟩ = some (.int .i64 0) ∧ v.cell? ⟨b, o + q * 4 + 2, none⟩ = some (.int .i64 0) ∧ v.cell? ⟨b, o + q * 4 + 3, none⟩ = some (.int .i64 0) ∧ v.cell? ⟨b, o + m * 4, none⟩ = some (.int .i64 y.k))) (by kernel_rfl) ?_ (fun hHeld => ?_)
  · with_reducible (first | exact HK8.out _ (Upd.refl _ _).drew | exact HK8.out _ HP3.out)
  refine zH 0 ?_
  refine zH 1 ?_
  (try simp only [Act.put, List.setIfInBounds_toArray, List.set_cons_zero, List.set_cons_succ])
  refine zH 2 ?_
  refine zH 3 ?_
  refine zH 4 ?_
  refine zH 5 ?_
  (try simp only [Act.put, List.setIfInBounds_toArray, List.set_cons_zero, List.set_cons_succ])
  refine zH 6 ?_
  refine zH 7 ?_
  refine zH 8 ?_
  refine zH 9 ?_
  (try simp only [Act.put, List.setIfInBounds_toArray, List.set_cons_zero, List.set_cons_succ])
  refine zH 10 ?_
  refine zH 11 ?_
  refine zH 12 ?_
  refine zH 13 ?_
  (try simp only [Act.put, List.setIfInBounds_toArray, List.set_cons_zero, List.set_cons_succ])
  refine wpAnyH_ready (rs := [14]) (by kernel_rfl) (by simp) (AllReadyH.cons (o := { dst := (some 37), op := (Go.Op.call { callee := (Go.Callee.value (Go.Operand.func 51)), args := #[], argTypes := #[] }), type := 40, pos := "edit.go:88", after := #[{ on := 8, ground := Go.Ground.chain }, { on := 8, ground := Go.Ground.guard }], guard := (some (8, false)) }) rfl (fun K hK => ?_) AllReadyH.nil)
  go_simp
  (go_at_call 51; refine (shut_calls _).mono ?_; rintro r w3 ⟨rfl, hu3⟩; have HP3 := As.mk ((Upd.refl _ _).drew.trans hu3 (fun _ _ h => h)); have HU3 := As.mk (HU1.out.trans HP3.out (fun _ _ h => h)); have HB3 := As.mk ((HP3.out.block w.heap.size (lt_of_block HB1.out) (fun h => h)).trans HB1.out); clear hu3)
  refine hK.out _ _ (by with_reducible (first | exact HK8.out _ (Upd.refl _ _).drew | exact HK8.out _ HP3.out)) (fun hHeld => ?_)
  clear hK K
  (try simp only [Act.put, List.setIfInBounds_toArray, List.set_cons_zero, List.set_cons_succ])
  refine zH 15 ?_
  refine zH 16 ?_
  refine zH 17 ?_
  (try simp only [Act.put, List.setIfInBounds_toArray, List.set_cons_zero, List.set_cons_succ])
  refine zH 18 ?_
  refine zH 19 ?_
  refine zH 20 ?_
  refine zH 21 ?_
  (try simp only [Act.put, List.setIfInBounds_toArray, List.set_cons_zero, List.set_cons_succ])
  refine zH 22 ?_
  refine zH 23 ?_
  refine zH 24 ?_
  refine wpAnyH_done (by kernel_rfl) ?_ _
  go_wp2_with (go_at_call 39; refine (refuse_calls _).mono ?_; rintro r w2 ⟨rfl, hu⟩; have HB2 := As.mk ((hu.block w.heap.size (lt_of_block HB3.out) (fun h => h)).trans HB3.out); have HU2 := As.mk (HU3.out.trans hu (fun _ _ h => h)); clear hu; apply As.out)
  refine ⟨?_⟩
  have hbl : w.heap.size < w2.heap.size := (Array.getElem?_eq_some_iff.1 HB2.out).1
  have hcf : ∀ i, w2.frozen? ⟨w.heap.size, i, none⟩ = false := fun i => by simp [World.frozen?, HB2.out]
  obtain ⟨k0, k1, k2, k3, k4, k5, k6, k7⟩ := cells8 HB2.out
  go_wp2
  exact bodyPost_ret (step_end (rb := w.heap.size) rfl _ rfl (set8 (rb := w.heap.size) HB2.out _ _ _ _ _ _ _ _)) rfl ⟨rfl, set8_pure HU2.out (Nat.le_refl _) _ _ _ _ _ _ _ _⟩
set_option maxRecDepth 100000 in
set_option maxHeartbeats 4000000 in
theorem Join_go {w : World} {F : Nat → Prop} {cb b o : Nat} {c : Nat} {l : List Tok} {q m : Nat} {y : Tok} {e : Int} {s' : StepD} (hrow : tokR.row w F (some ⟨b, o, none⟩) l) (hm : m = q + 1) (hq : l[q]? = some shutT) (hy : l[m]? = some y) (hyk : y.k = 1) (hb : l.length ≤ 1048576 * 4)
    (hp : ∀ W, Pure w W → Calls Tryz.prog 38 #[deskV cb (some ⟨b, o, none⟩) l.length c, .int .i64 (m : Nat), .int .i64 (m : Nat)] W (fun r w' => r = .returned (.int .i64 0) ∧ Pure W w'))
    (hr : ∀ W, Pure w W → Calls Tryz.prog 40 #[deskV cb (some ⟨b, o, none⟩) l.length c, .int .i64 (q : Nat), .int .i64 ((m : Nat) + 1), .slice none 0 0] W (Told s' none 0 e W)) :
    Calls Tryz.prog 27 #[.pointer (some ⟨cb, 0, none⟩), .slice (some ⟨b, o, none⟩) l.length c, .int .i64 (m : Nat)] w (Told s' none 0 e w) := by
  have HP := As.mk hp
  have HR := As.mk hr
  obtain ⟨b1, o1, hA, hF, hbl0, c0, c1, c2, c3⟩ := tok_at hrow hq
  obtain ⟨b2, o2, hA2, _, _, d0, _, _, _⟩ := tok_at hrow hy
  cases hA
  cases hA2
  rw [hyk] at d0
  have ml : m < l.length := (List.getElem?_eq_some_iff.1 hy).1
  have HBL := As.mk hbl0
  have HCS := As.mk (And.intro c0 (And.intro c1 (And.intro c2 (And.intro c3 d0))))
  have i1 : ¬ ((m : Int) = 0) := by omega
  have i2 : ¬ ((m : Int) = (l.length : Int)) := by omega
  have i3 : q < l.length := by omega
  have j1 : ((m : Int) == 0) = false := by simpa using i1
  have j2 : ((m : Int) == (l.length : Int)) = false := by simp; omega
  have hw1 : IntKind.i64.wrap ((m : Int) - 1) = (q : Int) := by rw [IntWalk.i64_in _ (by omega)]; omega
  have hw2 : IntKind.i64.wrap ((m : Int) + 1) = (m : Int) + 1 := IntWalk.i64_in _ (by omega)
  clear hp hr hrow hq hy hyk hF hbl0 c0 c1 c2 c3 d0 hm
  unfold Told StepD.val at *
  go_enter Tryz.func27, Tryz.ntmps27
  go_wp2_with (go_at_call 38; refine (HP.out _ ((Upd.alloc1 (fun _ => False) _ _).alloc _)).mono ?_; rintro r w1 ⟨rfl, hu⟩; obtain ⟨hb1, hb2, hu2⟩ := two_up hu; obtain ⟨q0, q1⟩ := cells2 hb2; have HB1 := As.mk hb1; have HQ1 := As.mk hb2; have HU1 := As.mk hu2; clear hu hb1 hb2 hu2)
  have HK8 := As.mk (fun v (hu : Pure w1 v) => (by
    obtain ⟨e0, e1, e2, e3, e4⟩ := HCS.out
    have hb9 := HBL.out
    have hh : ∀ k, v.cell? ⟨b, k, none⟩ = w.cell? ⟨b, k, none⟩ := fun k => (hu.cell (Nat.lt_of_lt_of_le hb9 HU1.out.size) (fun h => h)).trans (HU1.out.cell hb9 (fun h => h))
    exact ⟨(hh _).trans e0, (hh _).trans e1, (hh _).trans e2, (hh _).trans e3, (hh _).trans e4⟩ : v.cell? ⟨b, o + q * 4, none⟩ = some (.int .i64 2) ∧ v.cell? ⟨b, o + q * 4 + 1, none⟩ = some (.int .i64 0) ∧ v.cell? ⟨b, o + q * 4 + 2, none⟩ = some (.int .i64 0) ∧ v.cell? ⟨b, o + q * 4 + 3, none⟩ = some (.int .i64 0) ∧ v.cell? ⟨b, o + m * 4, none⟩ = some (.int .i64 1)))
  refine wp_region_held_drew (S := (fun v => v.cell? ⟨b, o + q * 4, none⟩ = some (.int .i64 2) ∧ v.cell? ⟨b, o + q * 4 + 1, none⟩ = some (.int .i64 0) ∧ v.cell? ⟨b, o + q * 4 + 2, none⟩ = some (.int .i64 0) ∧ v.cell? ⟨b, o + q * 4 + 3, none⟩ = some (.int .i64 0) ∧ v.cell? ⟨b, o + m * 4, none⟩ = some (.int .i64 1))) (by kernel_rfl) ?_ (fun hHeld => ?_)
  · with_reducible (first | exact HK8.out _ (Upd.refl _ _).drew | exact HK8.out _ HP3.out)
  refine zH 0 ?_
  (try simp only [Act.put, List.setIfInBounds_toArray, List.set_cons_zero, List.set_cons_succ])
  refine zH 1 ?_
  refine zH 2 ?_
  refine zH 3 ?_
  refine zH 4 ?_
  (try simp only [Act.put, List.setIfInBounds_toArray, List.set_cons_zero, List.set_cons_succ])
  refine zH 5 ?_
  refine zH 6 ?_
  refine zH 7 ?_
  refine zH 8 ?_
  (try simp only [Act.put, List.setIfInBounds_toArray, List.set_cons_zero, List.set_cons_succ])
  refine zH 9 ?_
  refine zH 10 ?_
  refine zH 11 ?_
  refine zH 12 ?_
  (try simp only [Act.put, List.setIfInBounds_toArray, List.set_cons_zero, List.set_cons_succ])
  refine zH 13 ?_
  refine wpAnyH_ready (rs := [14]) (by kernel_rfl) (by simp) (AllReadyH.cons (o := { dst := (some 37), op := (Go.Op.call { callee := (Go.Callee.value (Go.Operand.func 51)), args := #[], argTypes := #[] }), type := 40, pos := "edit.go:88", after := #[{ on := 8, ground := Go.Ground.chain }, { on := 8, ground := Go.Ground.guard }], guard := (some (8, false)) }) rfl (fun K hK => ?_) AllReadyH.nil)
  go_simp
  (go_at_call 51; refine (shut_calls _).mono ?_; rintro r w3 ⟨rfl, hu3⟩; have HP3 := As.mk ((Upd.refl _ _).drew.trans hu3 (fun _ _ h => h)); have HU3 := As.mk (HU1.out.trans HP3.out (fun _ _ h => h)); have HB3 := As.mk ((HP3.out.block w.heap.size (lt_of_block HB1.out) (fun h => h)).trans HB1.out); obtain ⟨z0, z1⟩ := cells2 ((HP3.out.block (w.heap.size + 1) (lt_of_block HQ1.out) (fun h => h)).trans HQ1.out); clear hu3)
  refine hK.out _ _ (by with_reducible (first | exact HK8.out _ (Upd.refl _ _).drew | exact HK8.out _ HP3.out)) (fun hHeld => ?_)
  clear hK K
  (try simp only [Act.put, List.setIfInBounds_toArray, List.set_cons_zero, List.set_cons_succ])
  refine zH 15 ?_
  refine zH 16 ?_
  (try simp only [Act.put, List.setIfInBounds_toArray, List.set_cons_zero, List.set_cons_succ])
  refine zH 17 ?_
  refine zH 18 ?_
  refine zH 19 ?_
  refine zH 20 ?_
  (try simp only [Act.put, List.setIfInBounds_toArray, List.set_cons_zero, List.set_cons_succ])
  refine zH 21 ?_
  refine zH 22 ?_
  refine zH 23 ?_
  refine zH 24 ?_
  (try simp only [Act.put, List.setIfInBounds_toArray, List.set_cons_zero, List.set_cons_succ])
  refine wpAnyH_done (by kernel_rfl) ?_ _
  go_wp2_with (go_at_call 40; refine (HR.out _ HU3.out).mono ?_; rintro r w2 ⟨rfl, hu⟩; have HB2 := As.mk ((hu.block w.heap.size (lt_of_block HB3.out) (fun h => h)).trans HB3.out); have HU2 := As.mk (HU3.out.trans hu (fun _ _ h => h)); clear hu; apply As.out)
  refine ⟨?_⟩
  have hbl : w.heap.size < w2.heap.size := (Array.getElem?_eq_some_iff.1 HB2.out).1
  have hcf : ∀ i, w2.frozen? ⟨w.heap.size, i, none⟩ = false := fun i => by simp [World.frozen?, HB2.out]
  obtain ⟨k0, k1, k2, k3, k4, k5, k6, k7⟩ := cells8 HB2.out
  go_wp2
  exact bodyPost_ret (step_end (rb := w.heap.size) rfl _ rfl (set8 (rb := w.heap.size) HB2.out _ _ _ _ _ _ _ _)) rfl ⟨rfl, set8_pure HU2.out (Nat.le_refl _) _ _ _ _ _ _ _ _⟩
end Go.Proofs.YteeindicpbcjaaaGreatDoor
