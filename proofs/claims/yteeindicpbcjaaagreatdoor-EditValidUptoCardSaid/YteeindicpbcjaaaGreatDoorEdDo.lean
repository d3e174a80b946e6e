/- edit.Do: any act's command. (printed by gen/gen_eddo.py) -/
import Derived.Test.YteeindicpbcjaaaGreatDoorEdCm
namespace Go.Proofs.YteeindicpbcjaaaGreatDoor
open Go.RowKit
set_option linter.unusedVariables false
set_option linter.unusedSimpArgs false

theorem heap3 (w : World) (X Y Z : Obj) : (((w.alloc X).alloc Y).alloc Z).heap[w.heap.size + 1 + 1]? = some Z := by
  have := heap_alloc_new ((w.alloc X).alloc Y) Z
  simpa using this
theorem cells9 {w : World} {k : Nat} {x0 x1 x2 x3 x4 x5 x6 x7 x8 : Value} {t : TypeId} (h : w.heap[k]? = some (.cells #[x0, x1, x2, x3, x4, x5, x6, x7, x8] t (0, 0))) :
    w.cell? ⟨k, 0, none⟩ = some x0 ∧ w.cell? ⟨k, 1, none⟩ = some x1 ∧ w.cell? ⟨k, 5, none⟩ = some x5 ∧ w.cell? ⟨k, 6, none⟩ = some x6 ∧ w.cell? ⟨k, 7, none⟩ = some x7 := by
  refine ⟨?_, ?_, ?_, ?_, ?_⟩ <;> simp [World.cell?, h]
theorem cells7 {w : World} {k : Nat} {x0 x1 x2 x3 x4 x5 x6 : Value} {t : TypeId} (h : w.heap[k]? = some (.cells #[x0, x1, x2, x3, x4, x5, x6] t (0, 0))) :
    w.cell? ⟨k, 0, none⟩ = some x0 ∧ w.cell? ⟨k, 1, none⟩ = some x1 ∧ w.cell? ⟨k, 2, none⟩ = some x2 ∧ w.cell? ⟨k, 3, none⟩ = some x3 ∧ w.cell? ⟨k, 4, none⟩ = some x4 ∧ w.cell? ⟨k, 5, none⟩ = some x5 ∧ w.cell? ⟨k, 6, none⟩ = some x6 := by
  refine ⟨?_, ?_, ?_, ?_, ?_, ?_, ?_⟩ <;> simp [World.cell?, h]
theorem CmdR.back {w W : World} {l : List Tok} {r : Ending} {w' : World} (hu : Pure w W) (h : CmdR W l r w') : CmdR w l r w' := by
  obtain ⟨s, B, c', e, h1, h2, h3, h4⟩ := h
  exact ⟨s, B, c', e, h1, hu.trans h2 (fun _ _ h => h), Rp.row_fp h3 (fun k h => Nat.le_trans hu.size h), h4⟩
set_option maxRecDepth 100000 in
set_option maxHeartbeats 4000000 in
theorem open_calls (t : Int) (w : World) : Calls Tryz.prog 77 #[.int .i64 t] w (fun r w' => r = .returned (openT t 0).val ∧ Pure w w') := by
  go_enter Tryz.func77, Tryz.ntmps77
  go_wp2
  exact bodyPost_ret (tok_end rfl _ rfl (heap_alloc_new w _)) rfl ⟨rfl, (by repeat (first | exact Upd.refl _ _ | exact HU1.out | (refine Upd.alloc ?_ _) | (refine Upd.setCell ?_ (by intro h; simp at h; try omega) _) | (refine Upd.drew ?_) | (refine Upd.drewN ?_ _) | (refine Upd.trans ?_ HU1.out (fun _ _ h => h))))⟩
set_option maxRecDepth 100000 in
set_option maxHeartbeats 4000000 in
theorem cinsert_calls {w : World} {F : Nat → Prop} {cb : Nat} {A : Option Addr} {c : Nat} {l : List Tok}{K a1 b1 p d n : Int} {V : Value} (h : SchR w cb houseRules houseGroups) (hr : tokR.row w F A l) (hlc : l.length ≤ c) (hb : l.length ≤ 1048576 * 4) :
    Calls Tryz.prog 52 #[.agg #[.pointer (some ⟨cb, 0, none⟩), .slice A l.length c, .int .i64 K, .int .i64 a1, .int .i64 b1, .int .i64 p, .int .i64 d, .int .i64 n, V]] w (CmdR w l) := by
  have HI := As.mk (fun W T (hu : Pure w W) (hx : tokR.row W (fun _ => True) T [⟨0, 0, n, 0⟩]) => cmd_insert (ct := 1) (p := p) (h.pure hu) (Rp.row_pure hr hu) hlc hb hx (by simp))
  clear h hr
  unfold CmdR at *
  go_enter Tryz.func52, Tryz.ntmps52
  go_wp2_with (go_at_call 14; refine (HI.out _ (some ⟨w.heap.size + 1 + 1, 0, none⟩) (((Upd.alloc1 (fun _ => False) _ _).alloc _).alloc _) (row_toks (l := [⟨0, 0, n, 0⟩]) (heap3 w _ _ _) trivial)).mono ?_; rintro r w2 ⟨s, B, c', e, rfl, hu, hrow, hcs, hbs, hz, h0, hf⟩; obtain ⟨_, hb2, _, hu2⟩ := three_up hu; have HB2 := As.mk hb2; have HU2 := As.mk hu2; clear hb2 hu2; have HR2 := As.mk hrow; have HC2 := As.mk hcs; have HS2 := As.mk hbs; have HZ2 := As.mk hz; have H02 := As.mk h0; have HF2 := As.mk hf; clear hu hrow hcs hbs hz h0 hf; apply As.out)
  refine ⟨?_⟩
  have hbl : (w.heap.size + 1) < w2.heap.size := (Array.getElem?_eq_some_iff.1 HB2.out).1
  have hcf : ∀ i, w2.frozen? ⟨(w.heap.size + 1), i, none⟩ = false := fun i => by simp [World.frozen?, HB2.out]
  obtain ⟨k0, k1, k2, k3, k4, k5, k6, k7⟩ := cells8 HB2.out
  go_wp2
  exact bodyPost_ret (step_end (rb := (w.heap.size + 1)) rfl _ rfl (set8 (rb := (w.heap.size + 1)) HB2.out _ _ _ _ _ _ _ _)) rfl ⟨s, B, c', e, rfl, set8_pure HU2.out (Nat.le_succ _) _ _ _ _ _ _ _ _, Rp.row_fp (Rp.row_upd HR2.out (set8_upd (rb := w.heap.size + 1) (Upd.refl _ _) _ _ _ _ _ _ _ _) (fun k _ h e => by subst e; simp at h; try omega)) (fun k h => by simp at h; omega), HC2.out, HS2.out, HZ2.out, H02.out, HF2.out⟩
set_option maxRecDepth 100000 in
set_option maxHeartbeats 4000000 in
theorem cwrap_calls {w : World} {F : Nat → Prop} {cb : Nat} {A : Option Addr} {c : Nat} {l : List Tok}{K a1 b1 p d n : Int} {V : Value} (h : SchR w cb houseRules houseGroups) (hr : tokR.row w F A l) (hlc : l.length ≤ c) (hb : l.length ≤ 1048576 * 4) :
    Calls Tryz.prog 53 #[.agg #[.pointer (some ⟨cb, 0, none⟩), .slice A l.length c, .int .i64 K, .int .i64 a1, .int .i64 b1, .int .i64 p, .int .i64 d, .int .i64 n, V]] w (CmdR w l) := by
  have HO := As.mk (fun t W => open_calls t W)
  by_cases hn : n = 6
  · subst hn
    have HI := As.mk (fun W T (hu : Pure w W) (hx : tokR.row W (fun _ => True) T [openT 5 0, openT 6 0]) => cmd_wrap (ct := 2) (f := p) (t := d) (h.pure hu) (Rp.row_pure hr hu) hlc hb hx (by simp) (by simp) (by simp))
    clear h hr
    unfold CmdR at *
    go_enter Tryz.func53, Tryz.ntmps53
    go_wp2
    have HS9 := As.mk (heap_alloc2_new w (.cells #[.pointer (some ⟨cb, 0, none⟩), .slice A l.length c, .int .i64 K, .int .i64 a1, .int .i64 b1, .int .i64 p, .int .i64 d, .int .i64 6, V] 93) (.cells #[.int .i64 0, .int .i64 0, .int .i64 0, .int .i64 0, .int .i64 0, .int .i64 0, .slice none 0 0, .int .i64 0] 27))
    have HC9 := As.mk ((Below.heap_alloc (w.alloc (.cells #[.pointer (some ⟨cb, 0, none⟩), .slice A l.length c, .int .i64 K, .int .i64 a1, .int .i64 b1, .int .i64 p, .int .i64 d, .int .i64 6, V] 93)) (.cells #[.int .i64 0, .int .i64 0, .int .i64 0, .int .i64 0, .int .i64 0, .int .i64 0, .slice none 0 0, .int .i64 0] 27) _ (by simp)).trans (heap_alloc_new w (.cells #[.pointer (some ⟨cb, 0, none⟩), .slice A l.length c, .int .i64 K, .int .i64 a1, .int .i64 b1, .int .i64 p, .int .i64 d, .int .i64 6, V] 93)))
    have HU9 := As.mk ((Upd.alloc1 (fun _ => False) w (.cells #[.pointer (some ⟨cb, 0, none⟩), .slice A l.length c, .int .i64 K, .int .i64 a1, .int .i64 b1, .int .i64 p, .int .i64 d, .int .i64 6, V] 93)).alloc (.cells #[.int .i64 0, .int .i64 0, .int .i64 0, .int .i64 0, .int .i64 0, .int .i64 0, .slice none 0 0, .int .i64 0] 27))
    generalize hW9 : ((w.alloc (.cells #[.pointer (some ⟨cb, 0, none⟩), .slice A l.length c, .int .i64 K, .int .i64 a1, .int .i64 b1, .int .i64 p, .int .i64 d, .int .i64 6, V] 93)).alloc (.cells #[.int .i64 0, .int .i64 0, .int .i64 0, .int .i64 0, .int .i64 0, .int .i64 0, .slice none 0 0, .int .i64 0] 27)) = W9 at *
    clear hW9
    have HK8 := As.mk (fun v (hu : Upd (fun k => k = w.heap.size + 1) W9 v) => (cells9 ((hu.block w.heap.size (lt_of_block HC9.out) (by omega)).trans HC9.out) : (fun v => v.cell? ⟨w.heap.size, 0, none⟩ = some (.pointer (some ⟨cb, 0, none⟩)) ∧ v.cell? ⟨w.heap.size, 1, none⟩ = some (.slice A l.length c) ∧ v.cell? ⟨w.heap.size, 5, none⟩ = some (.int .i64 p) ∧ v.cell? ⟨w.heap.size, 6, none⟩ = some (.int .i64 d) ∧ v.cell? ⟨w.heap.size, 7, none⟩ = some (.int .i64 6)) v))
    have HP0 := As.mk (show Upd (fun k => k = w.heap.size + 1) W9 W9.drew from (Upd.refl _ _).drew)
    have hcw := (cells9 HC9.out)
    refine wp_region_T (P := Tryz.prog) (fun v => v.cell? ⟨w.heap.size, 0, none⟩ = some (.pointer (some ⟨cb, 0, none⟩)) ∧ v.cell? ⟨w.heap.size, 1, none⟩ = some (.slice A l.length c) ∧ v.cell? ⟨w.heap.size, 5, none⟩ = some (.int .i64 p) ∧ v.cell? ⟨w.heap.size, 6, none⟩ = some (.int .i64 d) ∧ v.cell? ⟨w.heap.size, 7, none⟩ = some (.int .i64 6)) 21 (by kernel_rfl) ?_ (fun hHeld => ?_)
    · with_reducible (first | exact HK8.out _ HP0.out | exact HK8.out _ (up1 HP1.out) | exact HK8.out _ (up1 HP2.out) | exact HK8.out _ (up1 (HP2.out.alloc _)) | exact HK8.out _ (up1 HW2.out) | exact HK8.out _ (set8_upd (up1 HW2.out) _ _ _ _ _ _ _ _))
    refine zT 0 ?_
    refine zT 1 ?_
    refine zT 2 ?_
    refine zT 3 ?_
    (try simp only [Act.put, List.setIfInBounds_toArray, List.set_cons_zero, List.set_cons_succ])
    refine zT 4 ?_
    refine zT 5 ?_
    refine zT 6 ?_
    refine zT 7 ?_
    (try simp only [Act.put, List.setIfInBounds_toArray, List.set_cons_zero, List.set_cons_succ])
    refine zT 8 ?_
    refine zT 9 ?_
    refine zT 10 ?_
    refine zT 11 ?_
    (try simp only [Act.put, List.setIfInBounds_toArray, List.set_cons_zero, List.set_cons_succ])
    refine zT 12 ?_
    refine zT 14 ?_
    refine oT 13 (fun K hK => ?_)
    go_simp
    (go_at_call 77; refine (HO.out _ _).mono ?_; rintro r v1 ⟨rfl, hu⟩; have HP1 := As.mk ((Upd.refl (fun _ => False) W9).drew.trans hu (fun _ _ h => h)); clear hu)
    refine hK.out _ _ (fun _ => by with_reducible (first | exact HK8.out _ HP0.out | exact HK8.out _ (up1 HP1.out) | exact HK8.out _ (up1 HP2.out) | exact HK8.out _ (up1 (HP2.out.alloc _)) | exact HK8.out _ (up1 HW2.out) | exact HK8.out _ (set8_upd (up1 HW2.out) _ _ _ _ _ _ _ _))) (fun hHeld => ?_)
    replace hHeld := hHeld (by decide)
    clear hK K
    (try simp only [Act.put, List.setIfInBounds_toArray, List.set_cons_zero, List.set_cons_succ])
    refine oT 15 (fun K hK => ?_)
    go_simp
    (go_at_call 77; refine (HO.out _ _).mono ?_; rintro r v2 ⟨rfl, hu⟩; have HP2 := As.mk (HP1.out.trans hu (fun _ _ h => h)); clear hu)
    refine hK.out _ _ (fun _ => by with_reducible (first | exact HK8.out _ HP0.out | exact HK8.out _ (up1 HP1.out) | exact HK8.out _ (up1 HP2.out) | exact HK8.out _ (up1 (HP2.out.alloc _)) | exact HK8.out _ (up1 HW2.out) | exact HK8.out _ (set8_upd (up1 HW2.out) _ _ _ _ _ _ _ _))) (fun hHeld => ?_)
    replace hHeld := hHeld (by decide)
    clear hK K
    (try simp only [Act.put, List.setIfInBounds_toArray, List.set_cons_zero, List.set_cons_succ])
    refine oT 16 (fun K hK => ?_)
    go_simp
    refine hK.out _ _ (fun _ => by with_reducible (first | exact HK8.out _ HP0.out | exact HK8.out _ (up1 HP1.out) | exact HK8.out _ (up1 HP2.out) | exact HK8.out _ (up1 (HP2.out.alloc _)) | exact HK8.out _ (up1 HW2.out) | exact HK8.out _ (set8_upd (up1 HW2.out) _ _ _ _ _ _ _ _))) (fun hHeld => ?_)
    replace hHeld := hHeld (by decide)
    clear hK K
    (try simp only [Act.put, List.setIfInBounds_toArray, List.set_cons_zero, List.set_cons_succ])
    refine oT 17 (fun K hK => ?_)
    go_simp
    (go_at_call 24; refine (HI.out _ (some ⟨v2.heap.size, 0, none⟩) ((HU9.out.trans HP2.out (fun _ _ h => h)).alloc _) (row_toks (l := [openT 5 0, openT 6 0]) (heap_alloc_new v2 _) trivial)).mono ?_; rintro r w2 ⟨s, B, c', e, rfl, hu, hrow, hcs, hbs, hz, h0, hf⟩; have HW2 := As.mk ((HP2.out.alloc _).trans hu (fun _ _ h => h)); have HB2 := As.mk ((HW2.out.block (w.heap.size + 1) (lt_of_block HS9.out) (fun h => h)).trans HS9.out); have HU2 := As.mk (HU9.out.trans HW2.out (fun _ _ h => h)); have hbl2 : w.heap.size + 1 < w2.heap.size := lt_of_block HB2.out; have hcf2 : ∀ i, w2.frozen? ⟨w.heap.size + 1, i, none⟩ = false := (fun i => by simp [World.frozen?, HB2.out]); obtain ⟨k0, k1, k2, k3, k4, k5, k6, k7⟩ := cells8 HB2.out; have hsz : w.heap.size + 2 ≤ v2.heap.size := (by have := lt_of_block HS9.out; have := HP2.out.size; omega); have HR2 := As.mk (Rp.row_fp (G := fun k => w.heap.size + 2 ≤ k) hrow (fun k h => by simp at h; omega)); have HC2 := As.mk hcs; have HS2 := As.mk hbs; have HZ2 := As.mk hz; have H02 := As.mk h0; have HF2 := As.mk hf; clear hu hrow hcs hbs hz h0 hf)
    refine hK.out _ _ (fun _ => by with_reducible (first | exact HK8.out _ HP0.out | exact HK8.out _ (up1 HP1.out) | exact HK8.out _ (up1 HP2.out) | exact HK8.out _ (up1 (HP2.out.alloc _)) | exact HK8.out _ (up1 HW2.out) | exact HK8.out _ (set8_upd (up1 HW2.out) _ _ _ _ _ _ _ _))) (fun hHeld => ?_)
    replace hHeld := hHeld (by decide)
    clear hK K
    (try simp only [Act.put, List.setIfInBounds_toArray, List.set_cons_zero, List.set_cons_succ])
    refine zT 18 ?_
    refine zT 19 ?_
    (try simp only [Act.put, List.setIfInBounds_toArray, List.set_cons_zero, List.set_cons_succ])
    refine oT 20 (fun K hK => ?_)
    go_simp
    refine hK.out _ _ (fun _ => by with_reducible (first | exact HK8.out _ HP0.out | exact HK8.out _ (up1 HP1.out) | exact HK8.out _ (up1 HP2.out) | exact HK8.out _ (up1 (HP2.out.alloc _)) | exact HK8.out _ (up1 HW2.out) | exact HK8.out _ (set8_upd (up1 HW2.out) _ _ _ _ _ _ _ _))) (fun hHeld => ?_)
    replace hHeld := hHeld (by decide)
    clear hK K
    (try simp only [Act.put, List.setIfInBounds_toArray, List.set_cons_zero, List.set_cons_succ])
    refine oT 21 (fun K hK => ?_)
    go_simp
    refine hK.out _ _ (fun h => absurd rfl h) (fun hHeld => ?_)
    clear hK K
    (try simp only [Act.put, List.setIfInBounds_toArray, List.set_cons_zero, List.set_cons_succ])
    refine wpAnyT_done (by kernel_rfl) ?_ _
    go_wp2
    exact bodyPost_ret (step_end (rb := w.heap.size + 1) rfl _ rfl (set8 (rb := w.heap.size + 1) HB2.out _ _ _ _ _ _ _ _)) rfl ⟨s, B, c', e, rfl, set8_pure HU2.out (Nat.le_succ _) _ _ _ _ _ _ _ _, Rp.row_fp (Rp.row_upd HR2.out (set8_upd (rb := w.heap.size + 1) (Upd.refl _ _) _ _ _ _ _ _ _ _) (fun k _ h e => by omega)) (fun k h => by omega), HC2.out, HS2.out, HZ2.out, H02.out, HF2.out⟩
  · have n1 : (n == 6) = false := by simpa using hn
    have HI := As.mk (fun W T (hu : Pure w W) (hx : tokR.row W (fun _ => True) T [openT n 0]) => cmd_wrap (ct := 1) (f := p) (t := d) (h.pure hu) (Rp.row_pure hr hu) hlc hb hx (by simp) (by simp) (by simp))
    clear h hr hn
    unfold CmdR at *
    go_enter Tryz.func53, Tryz.ntmps53
    go_wp2
    have HS9 := As.mk (heap_alloc2_new w (.cells #[.pointer (some ⟨cb, 0, none⟩), .slice A l.length c, .int .i64 K, .int .i64 a1, .int .i64 b1, .int .i64 p, .int .i64 d, .int .i64 n, V] 93) (.cells #[.int .i64 0, .int .i64 0, .int .i64 0, .int .i64 0, .int .i64 0, .int .i64 0, .slice none 0 0, .int .i64 0] 27))
    have HC9 := As.mk ((Below.heap_alloc (w.alloc (.cells #[.pointer (some ⟨cb, 0, none⟩), .slice A l.length c, .int .i64 K, .int .i64 a1, .int .i64 b1, .int .i64 p, .int .i64 d, .int .i64 n, V] 93)) (.cells #[.int .i64 0, .int .i64 0, .int .i64 0, .int .i64 0, .int .i64 0, .int .i64 0, .slice none 0 0, .int .i64 0] 27) _ (by simp)).trans (heap_alloc_new w (.cells #[.pointer (some ⟨cb, 0, none⟩), .slice A l.length c, .int .i64 K, .int .i64 a1, .int .i64 b1, .int .i64 p, .int .i64 d, .int .i64 n, V] 93)))
    have HU9 := As.mk ((Upd.alloc1 (fun _ => False) w (.cells #[.pointer (some ⟨cb, 0, none⟩), .slice A l.length c, .int .i64 K, .int .i64 a1, .int .i64 b1, .int .i64 p, .int .i64 d, .int .i64 n, V] 93)).alloc (.cells #[.int .i64 0, .int .i64 0, .int .i64 0, .int .i64 0, .int .i64 0, .int .i64 0, .slice none 0 0, .int .i64 0] 27))
    generalize hW9 : ((w.alloc (.cells #[.pointer (some ⟨cb, 0, none⟩), .slice A l.length c, .int .i64 K, .int .i64 a1, .int .i64 b1, .int .i64 p, .int .i64 d, .int .i64 n, V] 93)).alloc (.cells #[.int .i64 0, .int .i64 0, .int .i64 0, .int .i64 0, .int .i64 0, .int .i64 0, .slice none 0 0, .int .i64 0] 27)) = W9 at *
    clear hW9
    have HK8 := As.mk (fun v (hu : Upd (fun k => k = w.heap.size + 1) W9 v) => (cells9 ((hu.block w.heap.size (lt_of_block HC9.out) (by omega)).trans HC9.out) : (fun v => v.cell? ⟨w.heap.size, 0, none⟩ = some (.pointer (some ⟨cb, 0, none⟩)) ∧ v.cell? ⟨w.heap.size, 1, none⟩ = some (.slice A l.length c) ∧ v.cell? ⟨w.heap.size, 5, none⟩ = some (.int .i64 p) ∧ v.cell? ⟨w.heap.size, 6, none⟩ = some (.int .i64 d) ∧ v.cell? ⟨w.heap.size, 7, none⟩ = some (.int .i64 n)) v))
    have HP0 := As.mk (show Upd (fun k => k = w.heap.size + 1) W9 W9.drew from (Upd.refl _ _).drew)
    have hcw := (cells9 HC9.out)
    refine wp_region_T (P := Tryz.prog) (fun v => v.cell? ⟨w.heap.size, 0, none⟩ = some (.pointer (some ⟨cb, 0, none⟩)) ∧ v.cell? ⟨w.heap.size, 1, none⟩ = some (.slice A l.length c) ∧ v.cell? ⟨w.heap.size, 5, none⟩ = some (.int .i64 p) ∧ v.cell? ⟨w.heap.size, 6, none⟩ = some (.int .i64 d) ∧ v.cell? ⟨w.heap.size, 7, none⟩ = some (.int .i64 n)) 22 (by kernel_rfl) ?_ (fun hHeld => ?_)
    · with_reducible (first | exact HK8.out _ HP0.out | exact HK8.out _ (up1 HP1.out) | exact HK8.out _ (up1 (HP1.out.alloc _)) | exact HK8.out _ (up1 HW2.out) | exact HK8.out _ (set8_upd (up1 HW2.out) _ _ _ _ _ _ _ _))
    refine zT 0 ?_
    refine zT 1 ?_
    (try simp only [Act.put, List.setIfInBounds_toArray, List.set_cons_zero, List.set_cons_succ])
    refine zT 2 ?_
    refine zT 3 ?_
    refine zT 4 ?_
    refine zT 5 ?_
    (try simp only [Act.put, List.setIfInBounds_toArray, List.set_cons_zero, List.set_cons_succ])
    refine zT 6 ?_
    refine zT 7 ?_
    refine zT 8 ?_
    refine zT 9 ?_
    (try simp only [Act.put, List.setIfInBounds_toArray, List.set_cons_zero, List.set_cons_succ])
    refine zT 10 ?_
    refine zT 11 ?_
    refine zT 12 ?_
    refine zT 13 ?_
    (try simp only [Act.put, List.setIfInBounds_toArray, List.set_cons_zero, List.set_cons_succ])
    refine zT 14 ?_
    refine zT 15 ?_
    refine oT 16 (fun K hK => ?_)
    go_simp
    (go_at_call 77; refine (HO.out _ _).mono ?_; rintro r v1 ⟨rfl, hu⟩; have HP1 := As.mk ((Upd.refl (fun _ => False) W9).drew.trans hu (fun _ _ h => h)); clear hu)
    refine hK.out _ _ (fun _ => by with_reducible (first | exact HK8.out _ HP0.out | exact HK8.out _ (up1 HP1.out) | exact HK8.out _ (up1 (HP1.out.alloc _)) | exact HK8.out _ (up1 HW2.out) | exact HK8.out _ (set8_upd (up1 HW2.out) _ _ _ _ _ _ _ _))) (fun hHeld => ?_)
    replace hHeld := hHeld (by decide)
    clear hK K
    (try simp only [Act.put, List.setIfInBounds_toArray, List.set_cons_zero, List.set_cons_succ])
    refine oT 17 (fun K hK => ?_)
    go_simp
    refine hK.out _ _ (fun _ => by with_reducible (first | exact HK8.out _ HP0.out | exact HK8.out _ (up1 HP1.out) | exact HK8.out _ (up1 (HP1.out.alloc _)) | exact HK8.out _ (up1 HW2.out) | exact HK8.out _ (set8_upd (up1 HW2.out) _ _ _ _ _ _ _ _))) (fun hHeld => ?_)
    replace hHeld := hHeld (by decide)
    clear hK K
    (try simp only [Act.put, List.setIfInBounds_toArray, List.set_cons_zero, List.set_cons_succ])
    refine oT 18 (fun K hK => ?_)
    go_simp
    (go_at_call 24; refine (HI.out _ (some ⟨v1.heap.size, 0, none⟩) ((HU9.out.trans HP1.out (fun _ _ h => h)).alloc _) (row_toks (l := [openT n 0]) (heap_alloc_new v1 _) trivial)).mono ?_; rintro r w2 ⟨s, B, c', e, rfl, hu, hrow, hcs, hbs, hz, h0, hf⟩; have HW2 := As.mk ((HP1.out.alloc _).trans hu (fun _ _ h => h)); have HB2 := As.mk ((HW2.out.block (w.heap.size + 1) (lt_of_block HS9.out) (fun h => h)).trans HS9.out); have HU2 := As.mk (HU9.out.trans HW2.out (fun _ _ h => h)); have hbl2 : w.heap.size + 1 < w2.heap.size := lt_of_block HB2.out; have hcf2 : ∀ i, w2.frozen? ⟨w.heap.size + 1, i, none⟩ = false := (fun i => by simp [World.frozen?, HB2.out]); obtain ⟨k0, k1, k2, k3, k4, k5, k6, k7⟩ := cells8 HB2.out; have hsz : w.heap.size + 2 ≤ v1.heap.size := (by have := lt_of_block HS9.out; have := HP1.out.size; omega); have HR2 := As.mk (Rp.row_fp (G := fun k => w.heap.size + 2 ≤ k) hrow (fun k h => by simp at h; omega)); have HC2 := As.mk hcs; have HS2 := As.mk hbs; have HZ2 := As.mk hz; have H02 := As.mk h0; have HF2 := As.mk hf; clear hu hrow hcs hbs hz h0 hf)
    refine hK.out _ _ (fun _ => by with_reducible (first | exact HK8.out _ HP0.out | exact HK8.out _ (up1 HP1.out) | exact HK8.out _ (up1 (HP1.out.alloc _)) | exact HK8.out _ (up1 HW2.out) | exact HK8.out _ (set8_upd (up1 HW2.out) _ _ _ _ _ _ _ _))) (fun hHeld => ?_)
    replace hHeld := hHeld (by decide)
    clear hK K
    (try simp only [Act.put, List.setIfInBounds_toArray, List.set_cons_zero, List.set_cons_succ])
    refine zT 19 ?_
    refine zT 20 ?_
    refine oT 21 (fun K hK => ?_)
    go_simp
    refine hK.out _ _ (fun _ => by with_reducible (first | exact HK8.out _ HP0.out | exact HK8.out _ (up1 HP1.out) | exact HK8.out _ (up1 (HP1.out.alloc _)) | exact HK8.out _ (up1 HW2.out) | exact HK8.out _ (set8_upd (up1 HW2.out) _ _ _ _ _ _ _ _))) (fun hHeld => ?_)
    replace hHeld := hHeld (by decide)
    clear hK K
    (try simp only [Act.put, List.setIfInBounds_toArray, List.set_cons_zero, List.set_cons_succ])
    refine oT 22 (fun K hK => ?_)
    go_simp
    refine hK.out _ _ (fun h => absurd rfl h) (fun hHeld => ?_)
    clear hK K
    (try simp only [Act.put, List.setIfInBounds_toArray, List.set_cons_zero, List.set_cons_succ])
    refine wpAnyT_done (by kernel_rfl) ?_ _
    go_wp2
    exact bodyPost_ret (step_end (rb := w.heap.size + 1) rfl _ rfl (set8 (rb := w.heap.size + 1) HB2.out _ _ _ _ _ _ _ _)) rfl ⟨s, B, c', e, rfl, set8_pure HU2.out (Nat.le_succ _) _ _ _ _ _ _ _ _, Rp.row_fp (Rp.row_upd HR2.out (set8_upd (rb := w.heap.size + 1) (Upd.refl _ _) _ _ _ _ _ _ _ _) (fun k _ h e => by omega)) (fun k h => by omega), HC2.out, HS2.out, HZ2.out, H02.out, HF2.out⟩
set_option maxRecDepth 100000 in
set_option maxHeartbeats 4000000 in
theorem Do_no {w : World} {F : Nat → Prop} {cb : Nat} {A : Option Addr} {c : Nat} {l : List Tok}{K a1 b1 p d n e : Int} {V : Value} (hp : ∀ W, Pure w W → Calls Tryz.prog 38 #[deskV cb A l.length c, .int .i64 0, .int .i64 0] W (fun r w' => r = .returned (.int .i64 e) ∧ Pure W w')) (he : e ≠ 0) :
    Calls Tryz.prog 29 #[.pointer (some ⟨cb, 0, none⟩), .slice A l.length c, .agg #[.int .i64 K, .int .i64 a1, .int .i64 b1, .int .i64 p, .int .i64 d, .int .i64 n, V]] w (CmdR w l) := by
  have HP := As.mk hp
  have HNE := As.mk he
  have f0 : (e != 0) = true := by simpa using he
  clear hp he
  unfold CmdR at *
  go_enter Tryz.func29, Tryz.ntmps29
  go_wp2_with (first | (go_at_call 39; refine (refuse_calls _).mono ?_; rintro r w2 ⟨rfl, hu⟩; have HB2 := As.mk ((hu.block (w.heap.size + 1) (lt_of_block HB1.out) (fun h => h)).trans HB1.out); have HU2 := As.mk (HU1.out.trans hu (fun _ _ h => h)); clear hu; apply As.out) | (go_at_call 38; refine (HP.out _ (((Upd.alloc1 (fun _ => False) _ _).alloc _).alloc _)).mono ?_; rintro r w1 ⟨rfl, hu⟩; obtain ⟨ha1, hb1, hb2, hu2⟩ := three_up hu; obtain ⟨q0, q1⟩ := cells2 hb2; obtain ⟨m0, m1, m2, m3, m4, m5, m6⟩ := cells7 ha1; have HB1 := As.mk hb1; have HQ1 := As.mk hb2; have HA1 := As.mk ha1; have HU1 := As.mk hu2; clear hu ha1 hb1 hb2 hu2))
  refine ⟨?_⟩
  have hbl : (w.heap.size + 1) < w2.heap.size := (Array.getElem?_eq_some_iff.1 HB2.out).1
  have hcf : ∀ i, w2.frozen? ⟨(w.heap.size + 1), i, none⟩ = false := fun i => by simp [World.frozen?, HB2.out]
  obtain ⟨k0, k1, k2, k3, k4, k5, k6, k7⟩ := cells8 HB2.out
  go_wp2
  exact bodyPost_ret (step_end (rb := (w.heap.size + 1)) rfl _ rfl (set8 (rb := (w.heap.size + 1)) HB2.out _ _ _ _ _ _ _ _)) rfl ⟨repl 0 0 [], none, 0, _, rfl, set8_pure HU2.out (Nat.le_succ _) _ _ _ _ _ _ _ _, .inl rfl, Nat.le_refl _, by simp [repl], fun _ => ⟨rfl, rfl, rfl⟩, fun h => absurd h (by first | decide | exact HNE.out), form_zero⟩
set_option maxRecDepth 100000 in
set_option maxHeartbeats 4000000 in
theorem Do_0 {w : World} {F : Nat → Prop} {cb : Nat} {A : Option Addr} {c : Nat} {l : List Tok}{K a1 p d n : Int} {V : Value} (h : SchR w cb houseRules houseGroups) (hr : tokR.row w F A l) (hlc : l.length ≤ c) (hb : l.length ≤ 1048576 * 4) (hp : ∀ W, Pure w W → Calls Tryz.prog 38 #[deskV cb A l.length c, .int .i64 0, .int .i64 0] W (fun r w' => r = .returned (.int .i64 0) ∧ Pure W w')) :
    Calls Tryz.prog 29 #[.pointer (some ⟨cb, 0, none⟩), .slice A l.length c, .agg #[.int .i64 K, .int .i64 a1, .int .i64 0, .int .i64 p, .int .i64 d, .int .i64 n, V]] w (CmdR w l) := by
  have HP := As.mk hp
  have HC := As.mk (fun W (hu : Pure w W) => cinsert_calls (K := K) (a1 := a1) (b1 := 0) (p := p) (d := d) (n := n) (V := V) (h.pure hu) (Rp.row_pure hr hu) hlc hb)
  clear hp h hr
  unfold CmdR at *
  go_enter Tryz.func29, Tryz.ntmps29
  go_wp2_with (first | (go_at_call 52; refine (HC.out _ HU1.out).mono ?_; rintro r w2 ⟨s, B, c', e, rfl, hu, hrow, hcs, hbs, hz, h0, hf⟩; have HB2 := As.mk ((hu.block (w.heap.size + 1) (lt_of_block HB1.out) (fun h => h)).trans HB1.out); have HU2 := As.mk (HU1.out.trans hu (fun _ _ h => h)); have hsz : w.heap.size + 2 ≤ w1.heap.size := (by have := lt_of_block HQ1.out; omega); have HR2 := As.mk (Rp.row_fp (G := fun k => w.heap.size + 2 ≤ k) hrow (fun k h => by omega)); have HC2 := As.mk hcs; have HS2 := As.mk hbs; have HZ2 := As.mk hz; have H02 := As.mk h0; have HF2 := As.mk hf; clear hu hrow hcs hbs hz h0 hf; apply As.out) | (go_at_call 38; refine (HP.out _ (((Upd.alloc1 (fun _ => False) _ _).alloc _).alloc _)).mono ?_; rintro r w1 ⟨rfl, hu⟩; obtain ⟨ha1, hb1, hb2, hu2⟩ := three_up hu; obtain ⟨q0, q1⟩ := cells2 hb2; obtain ⟨m0, m1, m2, m3, m4, m5, m6⟩ := cells7 ha1; have HB1 := As.mk hb1; have HQ1 := As.mk hb2; have HA1 := As.mk ha1; have HU1 := As.mk hu2; clear hu ha1 hb1 hb2 hu2))
  refine ⟨?_⟩
  have hbl : (w.heap.size + 1) < w2.heap.size := (Array.getElem?_eq_some_iff.1 HB2.out).1
  have hcf : ∀ i, w2.frozen? ⟨(w.heap.size + 1), i, none⟩ = false := fun i => by simp [World.frozen?, HB2.out]
  obtain ⟨k0, k1, k2, k3, k4, k5, k6, k7⟩ := cells8 HB2.out
  go_wp2
  exact bodyPost_ret (step_end (rb := (w.heap.size + 1)) rfl _ rfl (set8 (rb := (w.heap.size + 1)) HB2.out _ _ _ _ _ _ _ _)) rfl ⟨s, B, c', e, rfl, set8_pure HU2.out (Nat.le_succ _) _ _ _ _ _ _ _ _, Rp.row_fp (Rp.row_upd HR2.out (set8_upd (rb := w.heap.size + 1) (Upd.refl _ _) _ _ _ _ _ _ _ _) (fun k _ h e => by omega)) (fun k h => by omega), HC2.out, HS2.out, HZ2.out, H02.out, HF2.out⟩
set_option maxRecDepth 100000 in
set_option maxHeartbeats 4000000 in
theorem Do_6 {w : World} {F : Nat → Prop} {cb : Nat} {A : Option Addr} {c : Nat} {l : List Tok}{K a1 p d n : Int} {V : Value} (h : SchR w cb houseRules houseGroups) (hr : tokR.row w F A l) (hlc : l.length ≤ c) (hb : l.length ≤ 1048576 * 4) (hp : ∀ W, Pure w W → Calls Tryz.prog 38 #[deskV cb A l.length c, .int .i64 0, .int .i64 0] W (fun r w' => r = .returned (.int .i64 0) ∧ Pure W w')) :
    Calls Tryz.prog 29 #[.pointer (some ⟨cb, 0, none⟩), .slice A l.length c, .agg #[.int .i64 K, .int .i64 a1, .int .i64 6, .int .i64 p, .int .i64 d, .int .i64 n, V]] w (CmdR w l) := by
  have HP := As.mk hp
  have HC := As.mk (fun W (hu : Pure w W) => cwrap_calls (K := K) (a1 := a1) (b1 := 6) (p := p) (d := d) (n := n) (V := V) (h.pure hu) (Rp.row_pure hr hu) hlc hb)
  clear hp h hr
  unfold CmdR at *
  go_enter Tryz.func29, Tryz.ntmps29
  go_wp2_with (first | (go_at_call 53; refine (HC.out _ HU1.out).mono ?_; rintro r w2 ⟨s, B, c', e, rfl, hu, hrow, hcs, hbs, hz, h0, hf⟩; have HB2 := As.mk ((hu.block (w.heap.size + 1) (lt_of_block HB1.out) (fun h => h)).trans HB1.out); have HU2 := As.mk (HU1.out.trans hu (fun _ _ h => h)); have hsz : w.heap.size + 2 ≤ w1.heap.size := (by have := lt_of_block HQ1.out; omega); have HR2 := As.mk (Rp.row_fp (G := fun k => w.heap.size + 2 ≤ k) hrow (fun k h => by omega)); have HC2 := As.mk hcs; have HS2 := As.mk hbs; have HZ2 := As.mk hz; have H02 := As.mk h0; have HF2 := As.mk hf; clear hu hrow hcs hbs hz h0 hf; apply As.out) | (go_at_call 38; refine (HP.out _ (((Upd.alloc1 (fun _ => False) _ _).alloc _).alloc _)).mono ?_; rintro r w1 ⟨rfl, hu⟩; obtain ⟨ha1, hb1, hb2, hu2⟩ := three_up hu; obtain ⟨q0, q1⟩ := cells2 hb2; obtain ⟨m0, m1, m2, m3, m4, m5, m6⟩ := cells7 ha1; have HB1 := As.mk hb1; have HQ1 := As.mk hb2; have HA1 := As.mk ha1; have HU1 := As.mk hu2; clear hu ha1 hb1 hb2 hu2))
  refine ⟨?_⟩
  have hbl : (w.heap.size + 1) < w2.heap.size := (Array.getElem?_eq_some_iff.1 HB2.out).1
  have hcf : ∀ i, w2.frozen? ⟨(w.heap.size + 1), i, none⟩ = false := fun i => by simp [World.frozen?, HB2.out]
  obtain ⟨k0, k1, k2, k3, k4, k5, k6, k7⟩ := cells8 HB2.out
  go_wp2
  exact bodyPost_ret (step_end (rb := (w.heap.size + 1)) rfl _ rfl (set8 (rb := (w.heap.size + 1)) HB2.out _ _ _ _ _ _ _ _)) rfl ⟨s, B, c', e, rfl, set8_pure HU2.out (Nat.le_succ _) _ _ _ _ _ _ _ _, Rp.row_fp (Rp.row_upd HR2.out (set8_upd (rb := w.heap.size + 1) (Upd.refl _ _) _ _ _ _ _ _ _ _) (fun k _ h e => by omega)) (fun k h => by omega), HC2.out, HS2.out, HZ2.out, H02.out, HF2.out⟩
set_option maxRecDepth 100000 in
set_option maxHeartbeats 4000000 in
theorem Do_1 {w : World} {F : Nat → Prop} {cb : Nat} {A : Option Addr} {c : Nat} {l : List Tok}{K a1 p d n : Int} {V : Value} (h : SchR w cb houseRules houseGroups) (hr : tokR.row w F A l) (hlc : l.length ≤ c) (hb : l.length ≤ 1048576 * 4) (hp : ∀ W, Pure w W → Calls Tryz.prog 38 #[deskV cb A l.length c, .int .i64 0, .int .i64 0] W (fun r w' => r = .returned (.int .i64 0) ∧ Pure W w')) :
    Calls Tryz.prog 29 #[.pointer (some ⟨cb, 0, none⟩), .slice A l.length c, .agg #[.int .i64 K, .int .i64 a1, .int .i64 1, .int .i64 p, .int .i64 d, .int .i64 n, V]] w (CmdR w l) := by
  have HP := As.mk hp
  have HC := As.mk (fun W (hu : Pure w W) => cmd_delete (f := p) (t := d) (h.pure hu) (Rp.row_pure hr hu) hlc hb)
  clear hp h hr
  unfold CmdR at *
  go_enter Tryz.func29, Tryz.ntmps29
  go_wp2_with (first | (go_at_call 17; refine (HC.out _ HU1.out).mono ?_; rintro r w2 ⟨s, B, c', e, rfl, hu, hrow, hcs, hbs, hz, h0, hf⟩; have HB2 := As.mk ((hu.block (w.heap.size + 1) (lt_of_block HB1.out) (fun h => h)).trans HB1.out); have HU2 := As.mk (HU1.out.trans hu (fun _ _ h => h)); have hsz : w.heap.size + 2 ≤ w1.heap.size := (by have := lt_of_block HQ1.out; omega); have HR2 := As.mk (Rp.row_fp (G := fun k => w.heap.size + 2 ≤ k) hrow (fun k h => by omega)); have HC2 := As.mk hcs; have HS2 := As.mk hbs; have HZ2 := As.mk hz; have H02 := As.mk h0; have HF2 := As.mk hf; clear hu hrow hcs hbs hz h0 hf; apply As.out) | (go_at_call 38; refine (HP.out _ (((Upd.alloc1 (fun _ => False) _ _).alloc _).alloc _)).mono ?_; rintro r w1 ⟨rfl, hu⟩; obtain ⟨ha1, hb1, hb2, hu2⟩ := three_up hu; obtain ⟨q0, q1⟩ := cells2 hb2; obtain ⟨m0, m1, m2, m3, m4, m5, m6⟩ := cells7 ha1; have HB1 := As.mk hb1; have HQ1 := As.mk hb2; have HA1 := As.mk ha1; have HU1 := As.mk hu2; clear hu ha1 hb1 hb2 hu2))
  refine ⟨?_⟩
  have hbl : (w.heap.size + 1) < w2.heap.size := (Array.getElem?_eq_some_iff.1 HB2.out).1
  have hcf : ∀ i, w2.frozen? ⟨(w.heap.size + 1), i, none⟩ = false := fun i => by simp [World.frozen?, HB2.out]
  obtain ⟨k0, k1, k2, k3, k4, k5, k6, k7⟩ := cells8 HB2.out
  go_wp2
  exact bodyPost_ret (step_end (rb := (w.heap.size + 1)) rfl _ rfl (set8 (rb := (w.heap.size + 1)) HB2.out _ _ _ _ _ _ _ _)) rfl ⟨s, B, c', e, rfl, set8_pure HU2.out (Nat.le_succ _) _ _ _ _ _ _ _ _, Rp.row_fp (Rp.row_upd HR2.out (set8_upd (rb := w.heap.size + 1) (Upd.refl _ _) _ _ _ _ _ _ _ _) (fun k _ h e => by omega)) (fun k h => by omega), HC2.out, HS2.out, HZ2.out, H02.out, HF2.out⟩
set_option maxRecDepth 100000 in
set_option maxHeartbeats 4000000 in
theorem Do_2 {w : World} {F : Nat → Prop} {cb : Nat} {A : Option Addr} {c : Nat} {l : List Tok}{K a1 p d n : Int} {V : Value} (h : SchR w cb houseRules houseGroups) (hr : tokR.row w F A l) (hlc : l.length ≤ c) (hb : l.length ≤ 1048576 * 4) (hp : ∀ W, Pure w W → Calls Tryz.prog 38 #[deskV cb A l.length c, .int .i64 0, .int .i64 0] W (fun r w' => r = .returned (.int .i64 0) ∧ Pure W w')) :
    Calls Tryz.prog 29 #[.pointer (some ⟨cb, 0, none⟩), .slice A l.length c, .agg #[.int .i64 K, .int .i64 a1, .int .i64 2, .int .i64 p, .int .i64 d, .int .i64 n, V]] w (CmdR w l) := by
  have HP := As.mk hp
  have HC := As.mk (fun W (hu : Pure w W) => cmd_split (p := p) (h.pure hu) (Rp.row_pure hr hu) hlc hb)
  clear hp h hr
  unfold CmdR at *
  go_enter Tryz.func29, Tryz.ntmps29
  go_wp2_with (first | (go_at_call 26; refine (HC.out _ HU1.out).mono ?_; rintro r w2 ⟨s, B, c', e, rfl, hu, hrow, hcs, hbs, hz, h0, hf⟩; have HB2 := As.mk ((hu.block (w.heap.size + 1) (lt_of_block HB1.out) (fun h => h)).trans HB1.out); have HU2 := As.mk (HU1.out.trans hu (fun _ _ h => h)); have hsz : w.heap.size + 2 ≤ w1.heap.size := (by have := lt_of_block HQ1.out; omega); have HR2 := As.mk (Rp.row_fp (G := fun k => w.heap.size + 2 ≤ k) hrow (fun k h => by omega)); have HC2 := As.mk hcs; have HS2 := As.mk hbs; have HZ2 := As.mk hz; have H02 := As.mk h0; have HF2 := As.mk hf; clear hu hrow hcs hbs hz h0 hf; apply As.out) | (go_at_call 38; refine (HP.out _ (((Upd.alloc1 (fun _ => False) _ _).alloc _).alloc _)).mono ?_; rintro r w1 ⟨rfl, hu⟩; obtain ⟨ha1, hb1, hb2, hu2⟩ := three_up hu; obtain ⟨q0, q1⟩ := cells2 hb2; obtain ⟨m0, m1, m2, m3, m4, m5, m6⟩ := cells7 ha1; have HB1 := As.mk hb1; have HQ1 := As.mk hb2; have HA1 := As.mk ha1; have HU1 := As.mk hu2; clear hu ha1 hb1 hb2 hu2))
  refine ⟨?_⟩
  have hbl : (w.heap.size + 1) < w2.heap.size := (Array.getElem?_eq_some_iff.1 HB2.out).1
  have hcf : ∀ i, w2.frozen? ⟨(w.heap.size + 1), i, none⟩ = false := fun i => by simp [World.frozen?, HB2.out]
  obtain ⟨k0, k1, k2, k3, k4, k5, k6, k7⟩ := cells8 HB2.out
  go_wp2
  exact bodyPost_ret (step_end (rb := (w.heap.size + 1)) rfl _ rfl (set8 (rb := (w.heap.size + 1)) HB2.out _ _ _ _ _ _ _ _)) rfl ⟨s, B, c', e, rfl, set8_pure HU2.out (Nat.le_succ _) _ _ _ _ _ _ _ _, Rp.row_fp (Rp.row_upd HR2.out (set8_upd (rb := w.heap.size + 1) (Upd.refl _ _) _ _ _ _ _ _ _ _) (fun k _ h e => by omega)) (fun k h => by omega), HC2.out, HS2.out, HZ2.out, H02.out, HF2.out⟩
set_option maxRecDepth 100000 in
set_option maxHeartbeats 4000000 in
theorem Do_3 {w : World} {F : Nat → Prop} {cb : Nat} {A : Option Addr} {c : Nat} {l : List Tok}{K a1 p d n : Int} {V : Value} (h : SchR w cb houseRules houseGroups) (hr : tokR.row w F A l) (hlc : l.length ≤ c) (hb : l.length ≤ 1048576 * 4) (hp : ∀ W, Pure w W → Calls Tryz.prog 38 #[deskV cb A l.length c, .int .i64 0, .int .i64 0] W (fun r w' => r = .returned (.int .i64 0) ∧ Pure W w')) :
    Calls Tryz.prog 29 #[.pointer (some ⟨cb, 0, none⟩), .slice A l.length c, .agg #[.int .i64 K, .int .i64 a1, .int .i64 3, .int .i64 p, .int .i64 d, .int .i64 n, V]] w (CmdR w l) := by
  have HP := As.mk hp
  have HC := As.mk (fun W (hu : Pure w W) => cmd_join (p := p) (h.pure hu) (Rp.row_pure hr hu) hlc hb)
  clear hp h hr
  unfold CmdR at *
  go_enter Tryz.func29, Tryz.ntmps29
  go_wp2_with (first | (go_at_call 27; refine (HC.out _ HU1.out).mono ?_; rintro r w2 ⟨s, B, c', e, rfl, hu, hrow, hcs, hbs, hz, h0, hf⟩; have HB2 := As.mk ((hu.block (w.heap.size + 1) (lt_of_block HB1.out) (fun h => h)).trans HB1.out); have HU2 := As.mk (HU1.out.trans hu (fun _ _ h => h)); have hsz : w.heap.size + 2 ≤ w1.heap.size := (by have := lt_of_block HQ1.out; omega); have HR2 := As.mk (Rp.row_fp (G := fun k => w.heap.size + 2 ≤ k) hrow (fun k h => by omega)); have HC2 := As.mk hcs; have HS2 := As.mk hbs; have HZ2 := As.mk hz; have H02 := As.mk h0; have HF2 := As.mk hf; clear hu hrow hcs hbs hz h0 hf; apply As.out) | (go_at_call 38; refine (HP.out _ (((Upd.alloc1 (fun _ => False) _ _).alloc _).alloc _)).mono ?_; rintro r w1 ⟨rfl, hu⟩; obtain ⟨ha1, hb1, hb2, hu2⟩ := three_up hu; obtain ⟨q0, q1⟩ := cells2 hb2; obtain ⟨m0, m1, m2, m3, m4, m5, m6⟩ := cells7 ha1; have HB1 := As.mk hb1; have HQ1 := As.mk hb2; have HA1 := As.mk ha1; have HU1 := As.mk hu2; clear hu ha1 hb1 hb2 hu2))
  refine ⟨?_⟩
  have hbl : (w.heap.size + 1) < w2.heap.size := (Array.getElem?_eq_some_iff.1 HB2.out).1
  have hcf : ∀ i, w2.frozen? ⟨(w.heap.size + 1), i, none⟩ = false := fun i => by simp [World.frozen?, HB2.out]
  obtain ⟨k0, k1, k2, k3, k4, k5, k6, k7⟩ := cells8 HB2.out
  go_wp2
  exact bodyPost_ret (step_end (rb := (w.heap.size + 1)) rfl _ rfl (set8 (rb := (w.heap.size + 1)) HB2.out _ _ _ _ _ _ _ _)) rfl ⟨s, B, c', e, rfl, set8_pure HU2.out (Nat.le_succ _) _ _ _ _ _ _ _ _, Rp.row_fp (Rp.row_upd HR2.out (set8_upd (rb := w.heap.size + 1) (Upd.refl _ _) _ _ _ _ _ _ _ _) (fun k _ h e => by omega)) (fun k h => by omega), HC2.out, HS2.out, HZ2.out, H02.out, HF2.out⟩
set_option maxRecDepth 100000 in
set_option maxHeartbeats 4000000 in
theorem Do_4 {w : World} {F : Nat → Prop} {cb : Nat} {A : Option Addr} {c : Nat} {l : List Tok}{K a1 p d n : Int} {V : Value} (h : SchR w cb houseRules houseGroups) (hr : tokR.row w F A l) (hlc : l.length ≤ c) (hb : l.length ≤ 1048576 * 4) (hp : ∀ W, Pure w W → Calls Tryz.prog 38 #[deskV cb A l.length c, .int .i64 0, .int .i64 0] W (fun r w' => r = .returned (.int .i64 0) ∧ Pure W w')) :
    Calls Tryz.prog 29 #[.pointer (some ⟨cb, 0, none⟩), .slice A l.length c, .agg #[.int .i64 K, .int .i64 a1, .int .i64 4, .int .i64 p, .int .i64 d, .int .i64 n, V]] w (CmdR w l) := by
  have HP := As.mk hp
  have HC := As.mk (fun W (hu : Pure w W) => cmd_retype (p := p) (t := d) (n := n) (h.pure hu) (Rp.row_pure hr hu) hlc hb)
  clear hp h hr
  unfold CmdR at *
  go_enter Tryz.func29, Tryz.ntmps29
  go_wp2_with (first | (go_at_call 19; refine (HC.out _ HU1.out).mono ?_; rintro r w2 ⟨s, B, c', e, rfl, hu, hrow, hcs, hbs, hz, h0, hf⟩; have HB2 := As.mk ((hu.block (w.heap.size + 1) (lt_of_block HB1.out) (fun h => h)).trans HB1.out); have HU2 := As.mk (HU1.out.trans hu (fun _ _ h => h)); have hsz : w.heap.size + 2 ≤ w1.heap.size := (by have := lt_of_block HQ1.out; omega); have HR2 := As.mk (Rp.row_fp (G := fun k => w.heap.size + 2 ≤ k) hrow (fun k h => by omega)); have HC2 := As.mk hcs; have HS2 := As.mk hbs; have HZ2 := As.mk hz; have H02 := As.mk h0; have HF2 := As.mk hf; clear hu hrow hcs hbs hz h0 hf; apply As.out) | (go_at_call 38; refine (HP.out _ (((Upd.alloc1 (fun _ => False) _ _).alloc _).alloc _)).mono ?_; rintro r w1 ⟨rfl, hu⟩; obtain ⟨ha1, hb1, hb2, hu2⟩ := three_up hu; obtain ⟨q0, q1⟩ := cells2 hb2; obtain ⟨m0, m1, m2, m3, m4, m5, m6⟩ := cells7 ha1; have HB1 := As.mk hb1; have HQ1 := As.mk hb2; have HA1 := As.mk ha1; have HU1 := As.mk hu2; clear hu ha1 hb1 hb2 hu2))
  refine ⟨?_⟩
  have hbl : (w.heap.size + 1) < w2.heap.size := (Array.getElem?_eq_some_iff.1 HB2.out).1
  have hcf : ∀ i, w2.frozen? ⟨(w.heap.size + 1), i, none⟩ = false := fun i => by simp [World.frozen?, HB2.out]
  obtain ⟨k0, k1, k2, k3, k4, k5, k6, k7⟩ := cells8 HB2.out
  go_wp2
  exact bodyPost_ret (step_end (rb := (w.heap.size + 1)) rfl _ rfl (set8 (rb := (w.heap.size + 1)) HB2.out _ _ _ _ _ _ _ _)) rfl ⟨s, B, c', e, rfl, set8_pure HU2.out (Nat.le_succ _) _ _ _ _ _ _ _ _, Rp.row_fp (Rp.row_upd HR2.out (set8_upd (rb := w.heap.size + 1) (Upd.refl _ _) _ _ _ _ _ _ _ _) (fun k _ h e => by omega)) (fun k h => by omega), HC2.out, HS2.out, HZ2.out, H02.out, HF2.out⟩
set_option maxRecDepth 100000 in
set_option maxHeartbeats 4000000 in
theorem Do_5 {w : World} {F : Nat → Prop} {cb : Nat} {A : Option Addr} {c : Nat} {l : List Tok}{K a1 p d n : Int} {V : Value} (h : SchR w cb houseRules houseGroups) (hr : tokR.row w F A l) (hlc : l.length ≤ c) (hb : l.length ≤ 1048576 * 4) (hp : ∀ W, Pure w W → Calls Tryz.prog 38 #[deskV cb A l.length c, .int .i64 0, .int .i64 0] W (fun r w' => r = .returned (.int .i64 0) ∧ Pure W w')) :
    Calls Tryz.prog 29 #[.pointer (some ⟨cb, 0, none⟩), .slice A l.length c, .agg #[.int .i64 K, .int .i64 a1, .int .i64 5, .int .i64 p, .int .i64 d, .int .i64 n, V]] w (CmdR w l) := by
  have HP := As.mk hp
  have HC := As.mk (fun W (hu : Pure w W) => cmd_toggle (f := p) (t := d) (m := n) (h.pure hu) (Rp.row_pure hr hu) hlc hb)
  clear hp h hr
  unfold CmdR at *
  go_enter Tryz.func29, Tryz.ntmps29
  go_wp2_with (first | (go_at_call 21; refine (HC.out _ HU1.out).mono ?_; rintro r w2 ⟨s, B, c', e, rfl, hu, hrow, hcs, hbs, hz, h0, hf⟩; have HB2 := As.mk ((hu.block (w.heap.size + 1) (lt_of_block HB1.out) (fun h => h)).trans HB1.out); have HU2 := As.mk (HU1.out.trans hu (fun _ _ h => h)); have hsz : w.heap.size + 2 ≤ w1.heap.size := (by have := lt_of_block HQ1.out; omega); have HR2 := As.mk (Rp.row_fp (G := fun k => w.heap.size + 2 ≤ k) hrow (fun k h => by omega)); have HC2 := As.mk hcs; have HS2 := As.mk hbs; have HZ2 := As.mk hz; have H02 := As.mk h0; have HF2 := As.mk hf; clear hu hrow hcs hbs hz h0 hf; apply As.out) | (go_at_call 38; refine (HP.out _ (((Upd.alloc1 (fun _ => False) _ _).alloc _).alloc _)).mono ?_; rintro r w1 ⟨rfl, hu⟩; obtain ⟨ha1, hb1, hb2, hu2⟩ := three_up hu; obtain ⟨q0, q1⟩ := cells2 hb2; obtain ⟨m0, m1, m2, m3, m4, m5, m6⟩ := cells7 ha1; have HB1 := As.mk hb1; have HQ1 := As.mk hb2; have HA1 := As.mk ha1; have HU1 := As.mk hu2; clear hu ha1 hb1 hb2 hu2))
  refine ⟨?_⟩
  have hbl : (w.heap.size + 1) < w2.heap.size := (Array.getElem?_eq_some_iff.1 HB2.out).1
  have hcf : ∀ i, w2.frozen? ⟨(w.heap.size + 1), i, none⟩ = false := fun i => by simp [World.frozen?, HB2.out]
  obtain ⟨k0, k1, k2, k3, k4, k5, k6, k7⟩ := cells8 HB2.out
  go_wp2
  exact bodyPost_ret (step_end (rb := (w.heap.size + 1)) rfl _ rfl (set8 (rb := (w.heap.size + 1)) HB2.out _ _ _ _ _ _ _ _)) rfl ⟨s, B, c', e, rfl, set8_pure HU2.out (Nat.le_succ _) _ _ _ _ _ _ _ _, Rp.row_fp (Rp.row_upd HR2.out (set8_upd (rb := w.heap.size + 1) (Upd.refl _ _) _ _ _ _ _ _ _ _) (fun k _ h e => by omega)) (fun k h => by omega), HC2.out, HS2.out, HZ2.out, H02.out, HF2.out⟩
set_option maxRecDepth 100000 in
set_option maxHeartbeats 4000000 in
theorem Do_7 {w : World} {F : Nat → Prop} {cb : Nat} {A : Option Addr} {c : Nat} {l : List Tok}{K a1 p d n : Int} {V : Value} (h : SchR w cb houseRules houseGroups) (hr : tokR.row w F A l) (hlc : l.length ≤ c) (hb : l.length ≤ 1048576 * 4) (hp : ∀ W, Pure w W → Calls Tryz.prog 38 #[deskV cb A l.length c, .int .i64 0, .int .i64 0] W (fun r w' => r = .returned (.int .i64 0) ∧ Pure W w')) :
    Calls Tryz.prog 29 #[.pointer (some ⟨cb, 0, none⟩), .slice A l.length c, .agg #[.int .i64 K, .int .i64 a1, .int .i64 7, .int .i64 p, .int .i64 d, .int .i64 n, V]] w (CmdR w l) := by
  have HP := As.mk hp
  have HC := As.mk (fun W (hu : Pure w W) => cmd_lift (p := p) (h.pure hu) (Rp.row_pure hr hu) hlc hb)
  clear hp h hr
  unfold CmdR at *
  go_enter Tryz.func29, Tryz.ntmps29
  go_wp2_with (first | (go_at_call 25; refine (HC.out _ HU1.out).mono ?_; rintro r w2 ⟨s, B, c', e, rfl, hu, hrow, hcs, hbs, hz, h0, hf⟩; have HB2 := As.mk ((hu.block (w.heap.size + 1) (lt_of_block HB1.out) (fun h => h)).trans HB1.out); have HU2 := As.mk (HU1.out.trans hu (fun _ _ h => h)); have hsz : w.heap.size + 2 ≤ w1.heap.size := (by have := lt_of_block HQ1.out; omega); have HR2 := As.mk (Rp.row_fp (G := fun k => w.heap.size + 2 ≤ k) hrow (fun k h => by omega)); have HC2 := As.mk hcs; have HS2 := As.mk hbs; have HZ2 := As.mk hz; have H02 := As.mk h0; have HF2 := As.mk hf; clear hu hrow hcs hbs hz h0 hf; apply As.out) | (go_at_call 38; refine (HP.out _ (((Upd.alloc1 (fun _ => False) _ _).alloc _).alloc _)).mono ?_; rintro r w1 ⟨rfl, hu⟩; obtain ⟨ha1, hb1, hb2, hu2⟩ := three_up hu; obtain ⟨q0, q1⟩ := cells2 hb2; obtain ⟨m0, m1, m2, m3, m4, m5, m6⟩ := cells7 ha1; have HB1 := As.mk hb1; have HQ1 := As.mk hb2; have HA1 := As.mk ha1; have HU1 := As.mk hu2; clear hu ha1 hb1 hb2 hu2))
  refine ⟨?_⟩
  have hbl : (w.heap.size + 1) < w2.heap.size := (Array.getElem?_eq_some_iff.1 HB2.out).1
  have hcf : ∀ i, w2.frozen? ⟨(w.heap.size + 1), i, none⟩ = false := fun i => by simp [World.frozen?, HB2.out]
  obtain ⟨k0, k1, k2, k3, k4, k5, k6, k7⟩ := cells8 HB2.out
  go_wp2
  exact bodyPost_ret (step_end (rb := (w.heap.size + 1)) rfl _ rfl (set8 (rb := (w.heap.size + 1)) HB2.out _ _ _ _ _ _ _ _)) rfl ⟨s, B, c', e, rfl, set8_pure HU2.out (Nat.le_succ _) _ _ _ _ _ _ _ _, Rp.row_fp (Rp.row_upd HR2.out (set8_upd (rb := w.heap.size + 1) (Upd.refl _ _) _ _ _ _ _ _ _ _) (fun k _ h e => by omega)) (fun k h => by omega), HC2.out, HS2.out, HZ2.out, H02.out, HF2.out⟩
set_option maxRecDepth 100000 in
set_option maxHeartbeats 4000000 in
theorem Do_else {w : World} {F : Nat → Prop} {cb : Nat} {A : Option Addr} {c : Nat} {l : List Tok}{K a1 b1 p d n : Int} {V : Value} (hb1 : b1 ≠ 0 ∧ b1 ≠ 1 ∧ b1 ≠ 2 ∧ b1 ≠ 3 ∧ b1 ≠ 4 ∧ b1 ≠ 5 ∧ b1 ≠ 6 ∧ b1 ≠ 7) (hp : ∀ W, Pure w W → Calls Tryz.prog 38 #[deskV cb A l.length c, .int .i64 0, .int .i64 0] W (fun r w' => r = .returned (.int .i64 0) ∧ Pure W w')) :
    Calls Tryz.prog 29 #[.pointer (some ⟨cb, 0, none⟩), .slice A l.length c, .agg #[.int .i64 K, .int .i64 a1, .int .i64 b1, .int .i64 p, .int .i64 d, .int .i64 n, V]] w (CmdR w l) := by
  have HP := As.mk hp
  have HNE := As.mk (show (1 : Int) ≠ 0 by decide)
  have e0 : (b1 == 0) = false := by simp only [beq_eq_false_iff_ne, ne_eq]; omega
  have e1 : (b1 == 1) = false := by simp only [beq_eq_false_iff_ne, ne_eq]; omega
  have e2 : (b1 == 2) = false := by simp only [beq_eq_false_iff_ne, ne_eq]; omega
  have e3 : (b1 == 3) = false := by simp only [beq_eq_false_iff_ne, ne_eq]; omega
  have e4 : (b1 == 4) = false := by simp only [beq_eq_false_iff_ne, ne_eq]; omega
  have e5 : (b1 == 5) = false := by simp only [beq_eq_false_iff_ne, ne_eq]; omega
  have e6 : (b1 == 6) = false := by simp only [beq_eq_false_iff_ne, ne_eq]; omega
  have e7 : (b1 == 7) = false := by simp only [beq_eq_false_iff_ne, ne_eq]; omega
  clear hp hb1
  unfold CmdR at *
  go_enter Tryz.func29, Tryz.ntmps29
  go_wp2_with (first | (go_at_call 39; refine (refuse_calls _).mono ?_; rintro r w2 ⟨rfl, hu⟩; have HB2 := As.mk ((hu.block (w.heap.size + 1) (lt_of_block HB1.out) (fun h => h)).trans HB1.out); have HU2 := As.mk (HU1.out.trans hu (fun _ _ h => h)); clear hu; apply As.out) | (go_at_call 38; refine (HP.out _ (((Upd.alloc1 (fun _ => False) _ _).alloc _).alloc _)).mono ?_; rintro r w1 ⟨rfl, hu⟩; obtain ⟨ha1, hb1, hb2, hu2⟩ := three_up hu; obtain ⟨q0, q1⟩ := cells2 hb2; obtain ⟨m0, m1, m2, m3, m4, m5, m6⟩ := cells7 ha1; have HB1 := As.mk hb1; have HQ1 := As.mk hb2; have HA1 := As.mk ha1; have HU1 := As.mk hu2; clear hu ha1 hb1 hb2 hu2))
  refine ⟨?_⟩
  have hbl : (w.heap.size + 1) < w2.heap.size := (Array.getElem?_eq_some_iff.1 HB2.out).1
  have hcf : ∀ i, w2.frozen? ⟨(w.heap.size + 1), i, none⟩ = false := fun i => by simp [World.frozen?, HB2.out]
  obtain ⟨k0, k1, k2, k3, k4, k5, k6, k7⟩ := cells8 HB2.out
  go_wp2
  exact bodyPost_ret (step_end (rb := (w.heap.size + 1)) rfl _ rfl (set8 (rb := (w.heap.size + 1)) HB2.out _ _ _ _ _ _ _ _)) rfl ⟨repl 0 0 [], none, 0, _, rfl, set8_pure HU2.out (Nat.le_succ _) _ _ _ _ _ _ _ _, .inl rfl, Nat.le_refl _, by simp [repl], fun _ => ⟨rfl, rfl, rfl⟩, fun h => absurd h (by first | decide | exact HNE.out), form_zero⟩
theorem EdDo_calls {w : World} {F : Nat → Prop} {cb : Nat} {A : Option Addr} {c : Nat} {l : List Tok}{K a1 b1 p d n : Int} {V : Value} (h : SchR w cb houseRules houseGroups) (hr : tokR.row w F A l) (hlc : l.length ≤ c) (hb : l.length ≤ 1048576 * 4) :
    Calls Tryz.prog 29 #[.pointer (some ⟨cb, 0, none⟩), .slice A l.length c, .agg #[.int .i64 K, .int .i64 a1, .int .i64 b1, .int .i64 p, .int .i64 d, .int .i64 n, V]] w (CmdR w l) := by
  have hpl := fun W (hW : Pure w W) => places_calls (f := 0) (t := 0) (c := c) (h.pure hW) (Rp.row_pure hr hW) hb
  by_cases p0 : placesErr l 0 0 = 0
  · rw [p0] at hpl
    by_cases h0 : b1 = 0
    · subst h0; exact Do_0 h hr hlc hb hpl
    by_cases h1 : b1 = 1
    · subst h1; exact Do_1 h hr hlc hb hpl
    by_cases h2 : b1 = 2
    · subst h2; exact Do_2 h hr hlc hb hpl
    by_cases h3 : b1 = 3
    · subst h3; exact Do_3 h hr hlc hb hpl
    by_cases h4 : b1 = 4
    · subst h4; exact Do_4 h hr hlc hb hpl
    by_cases h5 : b1 = 5
    · subst h5; exact Do_5 h hr hlc hb hpl
    by_cases h6 : b1 = 6
    · subst h6; exact Do_6 h hr hlc hb hpl
    by_cases h7 : b1 = 7
    · subst h7; exact Do_7 h hr hlc hb hpl
    exact Do_else (F := F) ⟨h0, h1, h2, h3, h4, h5, h6, h7⟩ hpl
  · exact Do_no (F := F) hpl p0
end Go.Proofs.YteeindicpbcjaaaGreatDoor
