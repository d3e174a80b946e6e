/- caret.Move. -/
import Derived.Test.YtamcjdckhebmeaaDoorCaretF
import Derived.Test.YtamcjdckhebmeaaDoorCaretB
import Derived.Test.YtamcjdckhebmeaaDoorMovesP
import Derived.Scope
namespace Go.Proofs.YtamcjdckhebmeaaDoor
open Go.RowKit Go.Shelf
set_option linter.unusedVariables false
set_option linter.unusedSimpArgs false

attribute [local go_sem] Oper.semAt_some

def moveR (l : List Tok) (p n : Int) : Int × Int := if cmayV l p ≠ 0 then (0, cmayV l p) else (moveV l p n, 0)
theorem one_set {w W : World} {k1 : Nat} {u1 : Value} (v1 : Value) (h1 : W.cell? ⟨k1, 0, none⟩ = some u1) : (W.setCell ⟨k1, 0, none⟩ v1).cell? ⟨k1, 0, none⟩ = some v1 := World.cell?_setCell_same' W _ v1 (by rw [h1]; rfl)
set_option maxRecDepth 100000 in
set_option maxHeartbeats 4000000 in
theorem move_main {w : World} {cb : Nat} {F : Nat → Prop} {A : Option Addr} {c : Nat} {l : List Tok} {p n : Int} (h : SchR w cb houseRules houseGroups) (hr : tokR.row w F A l) (hb : l.length ≤ 200) (hlc : l.length ≤ c) (h0 : cmayV l p = 0) (hn : n ≠ 0) (hn2 : -1000 ≤ n ∧ n ≤ 1000) :
    Calls Tryd.prog 10 #[.pointer (some ⟨cb, 0, none⟩), .slice A l.length c, .int .i64 p, .int .i64 n] w fun r w' => r = .returned (.tuple #[.int .i64 (moveV l p n), .int .i64 0]) ∧ Pure w w' := by
  have hm := fun (W : World) (hu : Pure w W) => cmay_calls (c := c) (p := p) (h.pure hu) (Rp.row_pure hr hu) hb
  rw [h0] at hm
  obtain ⟨ok, hp⟩ := cmay_zero h0
  have hTC := fun (W : World) (q s : Int) => texts_calls W cb A l.length c q s
  have hs : sideOf n = 1 ∨ sideOf n = -1 := by unfold sideOf; split <;> simp
  have e0 : (n == 0) = false := by simpa using hn
  refine (callsIn_wide (n := 6)).1 ?_
  refine callsIn_of_wp_marks Tryd.func10 rfl trivial ?_ rfl
  simp only [Tryd.ntmps10, List.size_toArray, List.length_cons, List.length_nil, Nat.reduceAdd, Nat.reduceSub, Array.replicate_succ, Array.replicate_zero, List.push_toArray, List.append_toArray, List.nil_append, List.cons_append]
  have HB7 := As.mk (heap_alloc_new w (.cells #[.int .i64 n] 3))
  cases hneg : decide (n < 0)
  · skip
    have hsd : sideOf n = 1 := by unfold sideOf; rw [if_neg (of_decide_eq_false hneg)]
    have hwp : IntKind.i64.wrap (p + 1) = p + 1 := IntWalk.i64_in _ (by omega)
    have hwp2 : IntKind.i64.wrap (p - 1) = p - 1 := IntWalk.i64_in _ (by omega)
    refine wpIn_wide.2 ?_
    go_wp2
    refine wp_scope_straight ?_
    go_wp2_with ((go_at_call 14; refine (hm _ (Upd.alloc1 _ _ _)).mono ?_; rintro e w1 ⟨rfl, hu⟩; have b7 := (hu.block w.heap.size (by simp) (fun h => h)).trans HB7.out; have q7 : w1.cell? ⟨w.heap.size, 0, none⟩ = some (.int .i64 n) := (by unfold World.cell?; simp only [b7]; rfl); have z7 : w.heap.size < w1.heap.size := (Array.getElem?_eq_some_iff.1 b7).1; have HB71 := As.mk b7; have HU1 := As.mk hu; clear hu b7; apply As.out))
    refine ⟨?_⟩
    go_wp2
    refine wp_label ?_
    go_wp2_with (go_at_call 17; refine (hTC _ _ _).mono ?_; rintro e w2 ⟨rfl, hx, hu, hsz⟩; have HX := As.mk hx; have HU := As.mk hu; have HSZ := As.mk hsz; clear hx hu hsz)
    have hz2 : w2.heap.size = w1.heap.size + 1 + 1 + 1 + 4 := by rw [HSZ.out]; simp [World.setCell]
    have hP1 : Pure w w1 := Upd.trans (Upd.alloc1 (fun _ => False) _ _) HU1.out (fun _ _ h => h)
    have hPw : Pure w w2 := (((hP1.alloc _).alloc _).alloc _).trans HU.out (fun _ _ h => h)
    have hsz3 : (((w1.alloc (.cells #[.int .i64 (1)] 3)).alloc (.cells #[.int .i64 p] 3)).alloc (.cells #[.int .i64 0] 3)).heap.size = w1.heap.size + 1 + 1 + 1 := by simp [World.setCell]
    have bk7 : w2.heap[w.heap.size]? = some (.cells #[.int .i64 n] 3 (0, 0)) := (HU.out.block _ (by rw [hsz3]; omega) (fun h => h)).trans ((Below.heap_alloc _ _ _ (by simp [World.setCell]; omega)).trans ((Below.heap_alloc _ _ _ (by simp [World.setCell]; omega)).trans ((Below.heap_alloc _ _ _ z7).trans HB71.out)))
    have bk0 : w2.heap[w1.heap.size]? = some (.cells #[.int .i64 (1)] 3 (0, 0)) := (HU.out.block _ (by rw [hsz3]; omega) (fun h => h)).trans ((Below.heap_alloc _ _ _ (by simp [World.setCell]; try omega)).trans ((Below.heap_alloc _ _ _ (by simp [World.setCell])).trans (heap_alloc_new w1 _)))
    have bk1 : w2.heap[w1.heap.size + 1]? = some (.cells #[.int .i64 p] 3 (0, 0)) := (HU.out.block _ (by rw [hsz3]; omega) (fun h => h)).trans ((Below.heap_alloc _ _ _ (by simp [World.setCell])).trans (by
      have h9 := heap_alloc_new (w1.alloc (.cells #[.int .i64 (1)] 3)) (.cells #[.int .i64 p] 3)
      simpa [World.setCell] using h9))
    have bk2 : w2.heap[w1.heap.size + 1 + 1]? = some (.cells #[.int .i64 0] 3 (0, 0)) := (HU.out.block _ (by rw [hsz3]; omega) (fun h => h)).trans (by
      have h9 := heap_alloc_new ((w1.alloc (.cells #[.int .i64 (1)] 3)).alloc (.cells #[.int .i64 p] 3)) (.cells #[.int .i64 0] 3)
      simpa [World.setCell] using h9)
    have cel : ∀ {k : Nat} {v : Value}, w2.heap[k]? = some (.cells #[v] 3 (0, 0)) → w2.cell? ⟨k, 0, none⟩ = some v ∧ w2.frozen? ⟨k, 0, none⟩ = false := fun {k v} hk => ⟨by unfold World.cell?; simp only [hk]; rfl, by simp [World.frozen?, hk]⟩
    have HXB : Boxes w2 (w1.heap.size + 1 + 1 + 1) cb A l.length c (p + 1) 1 := by
      have h9 := HX.out
      rw [hsz3] at h9
      exact h9
    refine (wpIn_wide (n := 6)).1 ?_
    refine wpIn_rangeFunc_ownF rfl (by omega) (gf := 30) (lb := #[.pointer (some ⟨w1.heap.size + 1 + 1 + 1 + 2, 0, none⟩), .pointer (some ⟨w1.heap.size + 1 + 1 + 1 + 1, 0, none⟩), .pointer (some ⟨w1.heap.size + 1 + 1 + 1 + 3, 0, none⟩), .pointer (some ⟨w1.heap.size + 1 + 1 + 1, 0, none⟩)]) rfl trivial (enters_of Tryd.func30 (by kernel_rfl) rfl)
      (texts_stops 5 (by omega) (w0 := w) (w := w2) (p := p + 1) (s := 1) (B := w1.heap.size + 1 + 1 + 1) h hr hb hlc ok (.inl rfl) (by omega) hPw (by omega) HXB) KpT.trans
      (fun W l0 o o' hl _ _ _ => (grown_upd (grownBy_putObj' W l0 o')).mono (fun k _ e => by injection e with e; omega)) (Below.refl _ _) (fun _ => rfl)
      (fun pre W => (W.cell? ⟨w.heap.size, 0, none⟩ = some (.int .i64 n) ∧ W.cell? ⟨w1.heap.size, 0, none⟩ = some (.int .i64 (1)) ∧ W.cell? ⟨w1.heap.size + 1, 0, none⟩ = some (.int .i64 (pre.getLast?.getD p)) ∧ W.frozen? ⟨w1.heap.size + 1, 0, none⟩ = false ∧ W.cell? ⟨w1.heap.size + 1 + 1, 0, none⟩ = some (.int .i64 (((pre.length : Nat) : Int))) ∧ W.frozen? ⟨w1.heap.size + 1 + 1, 0, none⟩ = false ∧ pre.length < n.natAbs) ∧ Below w.heap.size w W)
      (fun cc pre W => (cc = .exit 0 ∧ W.cell? ⟨w1.heap.size + 1, 0, none⟩ = some (.int .i64 (pre.getLast?.getD p)) ∧ pre.length = n.natAbs) ∧ Below w.heap.size w W)
      (OwnFrom.and (Own.from (fun pre X Y row hh hg hrw => ⟨cell_kept hh.1 hg hrw, cell_kept hh.2.1 hg hrw, cell_kept hh.2.2.1 hg hrw, (frozen_kept hh.2.2.1 hg hrw).trans hh.2.2.2.1, cell_kept hh.2.2.2.2.1 hg hrw, (frozen_kept hh.2.2.2.2.1 hg hrw).trans hh.2.2.2.2.2.1, hh.2.2.2.2.2.2⟩) _) (ownFrom_below (Nat.le_refl _) (by omega)))
      (fun cc => OwnFrom.and (Own.from (fun pre X Y row hh hg hrw => ⟨hh.1, cell_kept hh.2.1 hg hrw, hh.2.2⟩) _) (ownFrom_below (Nat.le_refl _) (by omega)))
      ⟨⟨(cel bk7).1, (cel bk0).1, (cel bk1).1, (cel bk1).2, (cel bk2).1, (cel bk2).2, by simp; omega⟩, hPw.below⟩
      (fun x => { tmps := #[.pointer (some ⟨cb, 0, none⟩), .slice A l.length c, .int .i64 p, .int .i64 n, undef, undef, undef, .pointer (some ⟨w.heap.size, 0, none⟩), .int .i64 0, .int .i64 0, .int .i64 0, .pointer (some ⟨w1.heap.size, 0, none⟩), .pointer (some ⟨w1.heap.size + 1, 0, none⟩), .pointer (some ⟨w1.heap.size + 1 + 1, 0, none⟩), .int .i64 x, .pointer (some ⟨cb, 0, none⟩), .slice A l.length c, .int .i64 p, .int .i64 0, .int .i64 0, .bool false, undef, .int .i64 n, .bool false, undef, .int .i64 n, .bool false, .int .i64 p, .pointer (some ⟨cb, 0, none⟩), .slice A l.length c, .int .i64 p, .int .i64 (1), .int .i64 (p + 1), .int .i64 (1), .func (.func 30) #[] #[.pointer (some ⟨w1.heap.size + 1 + 1 + 1 + 2, 0, none⟩), .pointer (some ⟨w1.heap.size + 1 + 1 + 1 + 1, 0, none⟩), .pointer (some ⟨w1.heap.size + 1 + 1 + 1 + 3, 0, none⟩), .pointer (some ⟨w1.heap.size + 1 + 1 + 1, 0, none⟩)], .int .i64 x, undef, undef, undef, undef, undef, undef, undef, undef], defers := [] }) ?assign ?body ?done ?stop
    case assign =>
      intro lp x W K hK
      gi_wp2
      exact hK
    case body =>
      have hn3 := of_decide_eq_false hneg
      rintro lp pre x W ⟨⟨q7', q0, q1, q2, q3, q4, hlt⟩, hB⟩ _
      have hwn : IntKind.i64.wrap (((pre.length : Nat) : Int) + 1) = ((pre.length : Nat) : Int) + 1 := IntWalk.i64_in _ (by omega)
      have hwn2 : IntKind.i64.wrap (((pre.length : Nat) : Int) - 1) = ((pre.length : Nat) : Int) - 1 := IntWalk.i64_in _ (by omega)
      have h2 := As.mk (two_sets (.int .i64 x) (.int .i64 (((pre.length : Nat) : Int) + 1)) q1 q3 (by omega) hB (by omega) (by omega))
      have hk : As (KpT w.heap.size (w1.heap.size + 1 + 1 + 1) W ((W.setCell ⟨w1.heap.size + 1, 0, none⟩ (.int .i64 x)).setCell ⟨w1.heap.size + 1 + 1, 0, none⟩ (.int .i64 (((pre.length : Nat) : Int) + 1)))) := ⟨((Upd.setCell1 (S := fun k => w.heap.size ≤ k ∧ (k < w1.heap.size + 1 + 1 + 1 ∨ w1.heap.size + 1 + 1 + 1 + 4 ≤ k)) W (p := ⟨w1.heap.size + 1, 0, none⟩) ⟨by show w.heap.size ≤ w1.heap.size + 1; omega, .inl (by show w1.heap.size + 1 < _; omega)⟩ _).setCell (p := ⟨w1.heap.size + 1 + 1, 0, none⟩) (fun _ => ⟨by show w.heap.size ≤ w1.heap.size + 1 + 1; omega, .inl (by show w1.heap.size + 1 + 1 < _; omega)⟩) _)⟩
      have hgl : (pre ++ [x]).getLast?.getD p = x := by simp
      have hot := As.mk (fun (k : Nat) (v : Value) (hk1 : k ≠ w1.heap.size + 1) (hk2 : k ≠ w1.heap.size + 1 + 1) (hc : W.cell? ⟨k, 0, none⟩ = some v) => (((World.cell?_setCell_far (W.setCell ⟨w1.heap.size + 1, 0, none⟩ (.int .i64 x)) ⟨w1.heap.size + 1 + 1, 0, none⟩ ⟨k, 0, none⟩ (.int .i64 (((pre.length : Nat) : Int) + 1)) (fun e => hk2 e.symm)).trans (World.cell?_setCell_far W ⟨w1.heap.size + 1, 0, none⟩ ⟨k, 0, none⟩ (.int .i64 x) (fun e => hk1 e.symm))).trans hc : ((W.setCell ⟨w1.heap.size + 1, 0, none⟩ (.int .i64 x)).setCell ⟨w1.heap.size + 1 + 1, 0, none⟩ (.int .i64 (((pre.length : Nat) : Int) + 1))).cell? ⟨k, 0, none⟩ = some v))
      have e7 := hot.out _ _ (by omega) (by omega) q7'
      by_cases hend : pre.length + 1 = n.natAbs
      · have ht : (((pre.length : Nat) : Int) + 1 == n) = true := by simp; omega
        gi_wp2
        all_goals exact ⟨h2.out.1, ⟨rfl, by rw [hgl]; exact h2.out.2.1, by simp; exact hend⟩, h2.out.2.2.2⟩
      · have ht : (((pre.length : Nat) : Int) + 1 == n) = false := by simp; omega
        gi_wp2
        all_goals exact ⟨h2.out.1, hk.out, ⟨e7, hot.out _ _ (by omega) (by omega) q0, by rw [hgl]; exact h2.out.2.1, by simp only [World.frozen?_setCell]; exact q2, by rw [h2.out.2.2.1]; congr 2; simp, by simp only [World.frozen?_setCell]; exact q4, by simp; omega⟩, h2.out.2.2.2⟩
    case done =>
      rintro D ys W hD rfl ⟨⟨q7', q0, q1, q2, q3, q4, hlt⟩, hB⟩ hK
      have hmv : moveV l p n = (places l 1 (p + 1)).getLast?.getD p := by
        unfold moveV lastTake
        rw [if_neg hn, hsd, List.take_of_length_le (by omega)]
      go_wp2
      refine ⟨by simp, .inl ⟨_, _, rfl, run_takeDeferred hK, ?_⟩⟩
      refine ⟨.tuple #[.int .i64 (moveV l p n), .int .i64 0], ?_, rfl, Upd.of_below (hB.trans (belowK_b (w := w) (Nat.le_refl _) W D _ _ (by omega) hK rfl rfl))⟩
      rw [hmv]
      simp [results, Tryd.f10, go_sem]
    case stop =>
      rintro D cc pre W hD hpre ⟨⟨rfl, q1, hlen⟩, hB⟩ hK
      have hmv : moveV l p n = pre.getLast?.getD p := by
        unfold moveV lastTake
        rw [if_neg hn, hsd, ← hlen, ← List.prefix_iff_eq_take.1 hpre]
      gi_wp2
      go_wp2
      refine ⟨by simp, .inl ⟨_, _, rfl, run_takeDeferred hK, ?_⟩⟩
      refine ⟨.tuple #[.int .i64 (moveV l p n), .int .i64 0], ?_, rfl, Upd.of_below (hB.trans (belowK_b (w := w) (Nat.le_refl _) W D _ _ (by omega) hK rfl rfl))⟩
      rw [hmv]
      simp [results, Tryd.f10, go_sem]
  · skip
    have hsd : sideOf n = (-1) := by unfold sideOf; rw [if_pos (of_decide_eq_true hneg)]
    have hwp : IntKind.i64.wrap (p + -1) = p + -1 := IntWalk.i64_in _ (by omega)
    have hwp2 : IntKind.i64.wrap (p - 1) = p - 1 := IntWalk.i64_in _ (by omega)
    refine wpIn_wide.2 ?_
    go_wp2
    refine wp_scope_straight ?_
    go_wp2_with ((go_at_call 14; refine (hm _ (Upd.alloc1 _ _ _)).mono ?_; rintro e w1 ⟨rfl, hu⟩; have b7 := (hu.block w.heap.size (by simp) (fun h => h)).trans HB7.out; have q7 : w1.cell? ⟨w.heap.size, 0, none⟩ = some (.int .i64 n) := (by unfold World.cell?; simp only [b7]; rfl); have z7 : w.heap.size < w1.heap.size := (Array.getElem?_eq_some_iff.1 b7).1; have HB71 := As.mk b7; have HU1 := As.mk hu; clear hu b7; apply As.out))
    refine ⟨?_⟩
    go_wp2
    refine wp_label ?_
    go_wp2_with (go_at_call 17; refine (hTC _ _ _).mono ?_; rintro e w2 ⟨rfl, hx, hu, hsz⟩; have HX := As.mk hx; have HU := As.mk hu; have HSZ := As.mk hsz; clear hx hu hsz)
    have hz2 : w2.heap.size = w1.heap.size + 1 + 1 + 1 + 4 := by rw [HSZ.out]; simp [World.setCell]
    have hP1 : Pure w w1 := Upd.trans (Upd.alloc1 (fun _ => False) _ _) HU1.out (fun _ _ h => h)
    have hPw : Pure w w2 := (((hP1.alloc _).alloc _).alloc _).trans HU.out (fun _ _ h => h)
    have hsz3 : (((w1.alloc (.cells #[.int .i64 (-1)] 3)).alloc (.cells #[.int .i64 p] 3)).alloc (.cells #[.int .i64 0] 3)).heap.size = w1.heap.size + 1 + 1 + 1 := by simp [World.setCell]
    have bk7 : w2.heap[w.heap.size]? = some (.cells #[.int .i64 n] 3 (0, 0)) := (HU.out.block _ (by rw [hsz3]; omega) (fun h => h)).trans ((Below.heap_alloc _ _ _ (by simp [World.setCell]; omega)).trans ((Below.heap_alloc _ _ _ (by simp [World.setCell]; omega)).trans ((Below.heap_alloc _ _ _ z7).trans HB71.out)))
    have bk0 : w2.heap[w1.heap.size]? = some (.cells #[.int .i64 (-1)] 3 (0, 0)) := (HU.out.block _ (by rw [hsz3]; omega) (fun h => h)).trans ((Below.heap_alloc _ _ _ (by simp [World.setCell]; try omega)).trans ((Below.heap_alloc _ _ _ (by simp [World.setCell])).trans (heap_alloc_new w1 _)))
    have bk1 : w2.heap[w1.heap.size + 1]? = some (.cells #[.int .i64 p] 3 (0, 0)) := (HU.out.block _ (by rw [hsz3]; omega) (fun h => h)).trans ((Below.heap_alloc _ _ _ (by simp [World.setCell])).trans (by
      have h9 := heap_alloc_new (w1.alloc (.cells #[.int .i64 (-1)] 3)) (.cells #[.int .i64 p] 3)
      simpa [World.setCell] using h9))
    have bk2 : w2.heap[w1.heap.size + 1 + 1]? = some (.cells #[.int .i64 0] 3 (0, 0)) := (HU.out.block _ (by rw [hsz3]; omega) (fun h => h)).trans (by
      have h9 := heap_alloc_new ((w1.alloc (.cells #[.int .i64 (-1)] 3)).alloc (.cells #[.int .i64 p] 3)) (.cells #[.int .i64 0] 3)
      simpa [World.setCell] using h9)
    have cel : ∀ {k : Nat} {v : Value}, w2.heap[k]? = some (.cells #[v] 3 (0, 0)) → w2.cell? ⟨k, 0, none⟩ = some v ∧ w2.frozen? ⟨k, 0, none⟩ = false := fun {k v} hk => ⟨by unfold World.cell?; simp only [hk]; rfl, by simp [World.frozen?, hk]⟩
    have HXB : Boxes w2 (w1.heap.size + 1 + 1 + 1) cb A l.length c (p + -1) (-1) := by
      have h9 := HX.out
      rw [hsz3] at h9
      exact h9
    refine (wpIn_wide (n := 6)).1 ?_
    refine wpIn_rangeFunc_ownF rfl (by omega) (gf := 30) (lb := #[.pointer (some ⟨w1.heap.size + 1 + 1 + 1 + 2, 0, none⟩), .pointer (some ⟨w1.heap.size + 1 + 1 + 1 + 1, 0, none⟩), .pointer (some ⟨w1.heap.size + 1 + 1 + 1 + 3, 0, none⟩), .pointer (some ⟨w1.heap.size + 1 + 1 + 1, 0, none⟩)]) rfl trivial (enters_of Tryd.func30 (by kernel_rfl) rfl)
      (texts_stops 5 (by omega) (w0 := w) (w := w2) (p := p + -1) (s := (-1)) (B := w1.heap.size + 1 + 1 + 1) h hr hb hlc ok (.inr rfl) (by omega) hPw (by omega) HXB) KpT.trans
      (fun W l0 o o' hl _ _ _ => (grown_upd (grownBy_putObj' W l0 o')).mono (fun k _ e => by injection e with e; omega)) (Below.refl _ _) (fun _ => rfl)
      (fun pre W => (W.cell? ⟨w.heap.size, 0, none⟩ = some (.int .i64 n) ∧ W.cell? ⟨w1.heap.size, 0, none⟩ = some (.int .i64 (-1)) ∧ W.cell? ⟨w1.heap.size + 1, 0, none⟩ = some (.int .i64 (pre.getLast?.getD p)) ∧ W.frozen? ⟨w1.heap.size + 1, 0, none⟩ = false ∧ W.cell? ⟨w1.heap.size + 1 + 1, 0, none⟩ = some (.int .i64 (-((pre.length : Nat) : Int))) ∧ W.frozen? ⟨w1.heap.size + 1 + 1, 0, none⟩ = false ∧ pre.length < n.natAbs) ∧ Below w.heap.size w W)
      (fun cc pre W => (cc = .exit 0 ∧ W.cell? ⟨w1.heap.size + 1, 0, none⟩ = some (.int .i64 (pre.getLast?.getD p)) ∧ pre.length = n.natAbs) ∧ Below w.heap.size w W)
      (OwnFrom.and (Own.from (fun pre X Y row hh hg hrw => ⟨cell_kept hh.1 hg hrw, cell_kept hh.2.1 hg hrw, cell_kept hh.2.2.1 hg hrw, (frozen_kept hh.2.2.1 hg hrw).trans hh.2.2.2.1, cell_kept hh.2.2.2.2.1 hg hrw, (frozen_kept hh.2.2.2.2.1 hg hrw).trans hh.2.2.2.2.2.1, hh.2.2.2.2.2.2⟩) _) (ownFrom_below (Nat.le_refl _) (by omega)))
      (fun cc => OwnFrom.and (Own.from (fun pre X Y row hh hg hrw => ⟨hh.1, cell_kept hh.2.1 hg hrw, hh.2.2⟩) _) (ownFrom_below (Nat.le_refl _) (by omega)))
      ⟨⟨(cel bk7).1, (cel bk0).1, (cel bk1).1, (cel bk1).2, (cel bk2).1, (cel bk2).2, by simp; omega⟩, hPw.below⟩
      (fun x => { tmps := #[.pointer (some ⟨cb, 0, none⟩), .slice A l.length c, .int .i64 p, .int .i64 n, undef, undef, undef, .pointer (some ⟨w.heap.size, 0, none⟩), .int .i64 0, .int .i64 0, .int .i64 0, .pointer (some ⟨w1.heap.size, 0, none⟩), .pointer (some ⟨w1.heap.size + 1, 0, none⟩), .pointer (some ⟨w1.heap.size + 1 + 1, 0, none⟩), .int .i64 x, .pointer (some ⟨cb, 0, none⟩), .slice A l.length c, .int .i64 p, .int .i64 0, .int .i64 0, .bool false, undef, .int .i64 n, .bool false, undef, .int .i64 n, .bool true, .int .i64 p, .pointer (some ⟨cb, 0, none⟩), .slice A l.length c, .int .i64 p, .int .i64 (-1), .int .i64 (p + -1), .int .i64 (-1), .func (.func 30) #[] #[.pointer (some ⟨w1.heap.size + 1 + 1 + 1 + 2, 0, none⟩), .pointer (some ⟨w1.heap.size + 1 + 1 + 1 + 1, 0, none⟩), .pointer (some ⟨w1.heap.size + 1 + 1 + 1 + 3, 0, none⟩), .pointer (some ⟨w1.heap.size + 1 + 1 + 1, 0, none⟩)], .int .i64 x, undef, undef, undef, undef, undef, undef, undef, undef], defers := [] }) ?assign ?body ?done ?stop
    case assign =>
      intro lp x W K hK
      gi_wp2
      exact hK
    case body =>
      have hn3 := of_decide_eq_true hneg
      rintro lp pre x W ⟨⟨q7', q0, q1, q2, q3, q4, hlt⟩, hB⟩ _
      have hwn : IntKind.i64.wrap (-((pre.length : Nat) : Int) + -1) = -((pre.length : Nat) : Int) + -1 := IntWalk.i64_in _ (by omega)
      have hwn2 : IntKind.i64.wrap (-((pre.length : Nat) : Int) - 1) = -((pre.length : Nat) : Int) - 1 := IntWalk.i64_in _ (by omega)
      have h2 := As.mk (two_sets (.int .i64 x) (.int .i64 (-((pre.length : Nat) : Int) + -1)) q1 q3 (by omega) hB (by omega) (by omega))
      have hk : As (KpT w.heap.size (w1.heap.size + 1 + 1 + 1) W ((W.setCell ⟨w1.heap.size + 1, 0, none⟩ (.int .i64 x)).setCell ⟨w1.heap.size + 1 + 1, 0, none⟩ (.int .i64 (-((pre.length : Nat) : Int) + -1)))) := ⟨((Upd.setCell1 (S := fun k => w.heap.size ≤ k ∧ (k < w1.heap.size + 1 + 1 + 1 ∨ w1.heap.size + 1 + 1 + 1 + 4 ≤ k)) W (p := ⟨w1.heap.size + 1, 0, none⟩) ⟨by show w.heap.size ≤ w1.heap.size + 1; omega, .inl (by show w1.heap.size + 1 < _; omega)⟩ _).setCell (p := ⟨w1.heap.size + 1 + 1, 0, none⟩) (fun _ => ⟨by show w.heap.size ≤ w1.heap.size + 1 + 1; omega, .inl (by show w1.heap.size + 1 + 1 < _; omega)⟩) _)⟩
      have hgl : (pre ++ [x]).getLast?.getD p = x := by simp
      have hot := As.mk (fun (k : Nat) (v : Value) (hk1 : k ≠ w1.heap.size + 1) (hk2 : k ≠ w1.heap.size + 1 + 1) (hc : W.cell? ⟨k, 0, none⟩ = some v) => (((World.cell?_setCell_far (W.setCell ⟨w1.heap.size + 1, 0, none⟩ (.int .i64 x)) ⟨w1.heap.size + 1 + 1, 0, none⟩ ⟨k, 0, none⟩ (.int .i64 (-((pre.length : Nat) : Int) + -1)) (fun e => hk2 e.symm)).trans (World.cell?_setCell_far W ⟨w1.heap.size + 1, 0, none⟩ ⟨k, 0, none⟩ (.int .i64 x) (fun e => hk1 e.symm))).trans hc : ((W.setCell ⟨w1.heap.size + 1, 0, none⟩ (.int .i64 x)).setCell ⟨w1.heap.size + 1 + 1, 0, none⟩ (.int .i64 (-((pre.length : Nat) : Int) + -1))).cell? ⟨k, 0, none⟩ = some v))
      have e7 := hot.out _ _ (by omega) (by omega) q7'
      by_cases hend : pre.length + 1 = n.natAbs
      · have ht : (-((pre.length : Nat) : Int) + -1 == n) = true := by simp; omega
        gi_wp2
        all_goals exact ⟨h2.out.1, ⟨rfl, by rw [hgl]; exact h2.out.2.1, by simp; exact hend⟩, h2.out.2.2.2⟩
      · have ht : (-((pre.length : Nat) : Int) + -1 == n) = false := by simp; omega
        gi_wp2
        all_goals exact ⟨h2.out.1, hk.out, ⟨e7, hot.out _ _ (by omega) (by omega) q0, by rw [hgl]; exact h2.out.2.1, by simp only [World.frozen?_setCell]; exact q2, by rw [h2.out.2.2.1]; congr 2; simp; omega, by simp only [World.frozen?_setCell]; exact q4, by simp; omega⟩, h2.out.2.2.2⟩
    case done =>
      rintro D ys W hD rfl ⟨⟨q7', q0, q1, q2, q3, q4, hlt⟩, hB⟩ hK
      have hmv : moveV l p n = (places l (-1) (p + -1)).getLast?.getD p := by
        unfold moveV lastTake
        rw [if_neg hn, hsd, List.take_of_length_le (by omega)]
      go_wp2
      refine ⟨by simp, .inl ⟨_, _, rfl, run_takeDeferred hK, ?_⟩⟩
      refine ⟨.tuple #[.int .i64 (moveV l p n), .int .i64 0], ?_, rfl, Upd.of_below (hB.trans (belowK_b (w := w) (Nat.le_refl _) W D _ _ (by omega) hK rfl rfl))⟩
      rw [hmv]
      simp [results, Tryd.f10, go_sem]
    case stop =>
      rintro D cc pre W hD hpre ⟨⟨rfl, q1, hlen⟩, hB⟩ hK
      have hmv : moveV l p n = pre.getLast?.getD p := by
        unfold moveV lastTake
        rw [if_neg hn, hsd, ← hlen, ← List.prefix_iff_eq_take.1 hpre]
      gi_wp2
      go_wp2
      refine ⟨by simp, .inl ⟨_, _, rfl, run_takeDeferred hK, ?_⟩⟩
      refine ⟨.tuple #[.int .i64 (moveV l p n), .int .i64 0], ?_, rfl, Upd.of_below (hB.trans (belowK_b (w := w) (Nat.le_refl _) W D _ _ (by omega) hK rfl rfl))⟩
      rw [hmv]
      simp [results, Tryd.f10, go_sem]
set_option maxRecDepth 100000 in
set_option maxHeartbeats 4000000 in
theorem move_easy {w : World} {cb : Nat} {F : Nat → Prop} {A : Option Addr} {c : Nat} {l : List Tok} {p n : Int} (h : SchR w cb houseRules houseGroups) (hr : tokR.row w F A l) (hb : l.length ≤ 200) (h0 : cmayV l p ≠ 0 ∨ n = 0) :
    Calls Tryd.prog 10 #[.pointer (some ⟨cb, 0, none⟩), .slice A l.length c, .int .i64 p, .int .i64 n] w fun r w' => r = .returned (.tuple #[.int .i64 (moveR l p n).1, .int .i64 (moveR l p n).2]) ∧ Pure w w' := by
  have hm := fun (W : World) (hu : Pure w W) => cmay_calls (c := c) (p := p) (h.pure hu) (Rp.row_pure hr hu) hb
  refine (callsIn_wide (n := 6)).1 ?_
  refine callsIn_of_wp_marks Tryd.func10 rfl trivial ?_ rfl
  simp only [Tryd.ntmps10, List.size_toArray, List.length_cons, List.length_nil, Nat.reduceAdd, Nat.reduceSub, Array.replicate_succ, Array.replicate_zero, List.push_toArray, List.append_toArray, List.nil_append, List.cons_append]
  have HB7 := As.mk (heap_alloc_new w (.cells #[.int .i64 n] 3))
  clear hr h
  by_cases he : cmayV l p = 0
  · have hn : n = 0 := by rcases h0 with h | h; exact absurd he h; exact h
    have hv : moveR l p n = (p, 0) := by unfold moveR moveV; rw [if_neg (by omega), if_pos hn]
    rw [hv]
    rw [he] at hm
    clear hv h0 he
    subst hn
    refine wpIn_wide.2 ?_
    go_wp2
    refine wp_scope_straight ?_
    go_wp2_with ((go_at_call 14; refine (hm _ (Upd.alloc1 _ _ _)).mono ?_; rintro e w1 ⟨rfl, hu⟩; have b7 := (hu.block w.heap.size (by simp) (fun h => h)).trans HB7.out; have q7 : w1.cell? ⟨w.heap.size, 0, none⟩ = some (.int .i64 0) := (by unfold World.cell?; simp only [b7]; rfl); have HU1 := As.mk (Upd.trans (Upd.alloc1 (fun _ => False) _ _) hu (fun _ _ h => h)); clear hu b7))
    refine ⟨.tuple #[.int .i64 p, .int .i64 0], ?_, rfl, HU1.out⟩
    simp [results, Tryd.f10, go_sem]
  · have hv : moveR l p n = (0, cmayV l p) := by unfold moveR; rw [if_pos he]
    rw [hv]
    have c1 : (cmayV l p != 0) = true := by simpa using he
    clear hv h0 he
    generalize cmayV l p = ev at *
    refine wpIn_wide.2 ?_
    go_wp2
    refine wp_scope_straight ?_
    go_wp2_with ((go_at_call 14; refine (hm _ (Upd.alloc1 _ _ _)).mono ?_; rintro e w1 ⟨rfl, hu⟩; have HU1 := As.mk (Upd.trans (Upd.alloc1 (fun _ => False) _ _) hu (fun _ _ h => h)); clear hu))
    refine ⟨.tuple #[.int .i64 0, .int .i64 ev], ?_, rfl, HU1.out⟩
    simp [results, Tryd.f10, go_sem]
set_option maxRecDepth 100000 in
set_option maxHeartbeats 4000000 in
theorem move_calls {w : World} {cb : Nat} {F : Nat → Prop} {A : Option Addr} {c : Nat} {l : List Tok} {p n : Int} (h : SchR w cb houseRules houseGroups) (hr : tokR.row w F A l) (hb : l.length ≤ 200) (hlc : l.length ≤ c) (hn2 : -1000 ≤ n ∧ n ≤ 1000) :
    Calls Tryd.prog 10 #[.pointer (some ⟨cb, 0, none⟩), .slice A l.length c, .int .i64 p, .int .i64 n] w fun r w' => r = .returned (.tuple #[.int .i64 (moveR l p n).1, .int .i64 (moveR l p n).2]) ∧ Pure w w' := by
  by_cases h0 : cmayV l p = 0
  · by_cases hn : n = 0
    · exact move_easy h hr hb (.inr hn)
    · have hv : moveR l p n = (moveV l p n, 0) := by unfold moveR; rw [if_neg (by omega)]
      rw [hv]
      exact move_main h hr hb hlc h0 hn hn2
  · exact move_easy h hr hb (.inl h0)
end Go.Proofs.YtamcjdckhebmeaaDoor
