/- caret.first. -/
import Derived.Test.YtfapglhdakhbeaaDoorCaretI
namespace Go.Proofs.YtfapglhdakhbeaaDoor
open Go.RowKit Go.Shelf
set_option linter.unusedVariables false
set_option linter.unusedSimpArgs false

attribute [local go_sem] Oper.semAt_some

theorem plc_may (l : List Tok) (s : Int) : ∀ (f : Nat) (p x : Int), x ∈ plc l s f p → mayF l x = true := by
  intro f
  induction f with
  | zero => intro p x h; cases h
  | succ f ih =>
    intro p x h
    rw [plc] at h
    split at h
    · split at h
      · rename_i hm
        rcases List.mem_cons.1 h with rfl | h
        · exact hm
        · exact ih _ _ h
      · exact ih _ _ h
    · cases h
theorem two_sets {w W : World} {k1 k2 : Nat} {u1 u2 : Value} (v1 v2 : Value) (h1 : W.cell? ⟨k1, 0, none⟩ = some u1) (h2 : W.cell? ⟨k2, 0, none⟩ = some u2) (hne : k1 ≠ k2) (hB : Below w.heap.size w W) (g1 : w.heap.size ≤ k1) (g2 : w.heap.size ≤ k2) :
    KeepsOthers W ((W.setCell ⟨k1, 0, none⟩ v1).setCell ⟨k2, 0, none⟩ v2) ∧ ((W.setCell ⟨k1, 0, none⟩ v1).setCell ⟨k2, 0, none⟩ v2).cell? ⟨k1, 0, none⟩ = some v1 ∧ ((W.setCell ⟨k1, 0, none⟩ v1).setCell ⟨k2, 0, none⟩ v2).cell? ⟨k2, 0, none⟩ = some v2 ∧ Below w.heap.size w ((W.setCell ⟨k1, 0, none⟩ v1).setCell ⟨k2, 0, none⟩ v2) := by
  have hu1 := Upd.setCell1 (S := fun k => k = k1) W (p := ⟨k1, 0, none⟩) rfl v1
  have hu2 := Upd.setCell1 (S := fun k => k = k2) (W.setCell ⟨k1, 0, none⟩ v1) (p := ⟨k2, 0, none⟩) rfl v2
  have hlt : ∀ {V : World} {k : Nat} {u : Value}, V.cell? ⟨k, 0, none⟩ = some u → k < V.heap.size := fun {V k u} h => by
    rcases Nat.lt_or_ge k V.heap.size with h9 | h9
    · exact h9
    · unfold World.cell? at h
      rw [Array.getElem?_eq_none h9] at h
      cases h
  have l1 := hlt h1
  have l2 := hlt h2
  have c1 : (W.setCell ⟨k1, 0, none⟩ v1).cell? ⟨k1, 0, none⟩ = some v1 := World.cell?_setCell_same' W _ v1 (by rw [h1]; rfl)
  have c2 : (W.setCell ⟨k1, 0, none⟩ v1).cell? ⟨k2, 0, none⟩ = some u2 := (hu1.cell l2 (fun e => hne e.symm)).trans h2
  refine ⟨(KeepsOthers.setCell W _ _).trans (KeepsOthers.setCell _ _ _), ?_, ?_, ((hB.setCell (p := ⟨k1, 0, none⟩) g1 _).setCell (p := ⟨k2, 0, none⟩) g2 _)⟩
  · show ((W.setCell ⟨k1, 0, none⟩ v1).setCell ⟨k2, 0, none⟩ v2).cell? _ = _
    exact (hu2.cell (Nat.lt_of_lt_of_le l1 hu1.size) hne).trans c1
  · show ((W.setCell ⟨k1, 0, none⟩ v1).setCell ⟨k2, 0, none⟩ v2).cell? _ = _
    exact World.cell?_setCell_same' _ _ v2 (by rw [c2]; rfl)
set_option maxRecDepth 100000 in
set_option maxHeartbeats 4000000 in
theorem first_calls {w : World} {cb : Nat} {F : Nat → Prop} {A : Option Addr} {c : Nat} {l : List Tok} {p s : Int} (h : SchR w cb houseRules houseGroups) (hr : tokR.row w F A l) (hb : l.length ≤ 200) (hlc : l.length ≤ c) (ok : (houseCheck l).2 = 0) (hs : s = 1 ∨ s = -1) (hp : 0 ≤ p ∧ p ≤ (l.length : Int)) :
    Calls Tryd.prog 17 #[.pointer (some ⟨cb, 0, none⟩), .slice A l.length c, .int .i64 p, .int .i64 s] w fun r w' => r = .returned (.tuple #[.int .i64 (firstV l s p).1, .int .i64 (firstV l s p).2]) ∧ Pure w w' := by
  have hTC := fun (W : World) => texts_calls W cb A l.length c p s
  refine (callsIn_wide (n := 6)).1 ?_
  refine callsIn_of_wp_marks Tryd.func17 rfl trivial ?_ rfl
  simp only [Tryd.ntmps17, List.size_toArray, List.length_cons, List.length_nil, Nat.reduceAdd, Nat.reduceSub, Array.replicate_succ, Array.replicate_zero, List.push_toArray, List.append_toArray, List.nil_append, List.cons_append]
  gi_wp2_with (refine ⟨trivial, ?_⟩; gi_at_call 22; refine (callsIn_wide.2 (hTC _)).mono ?_; rintro e w2 ⟨rfl, hx, hu, hsz⟩; have HX := As.mk hx; have HU := As.mk hu; have HSZ := As.mk hsz; clear hx hu hsz)
  have hz2 : w2.heap.size = w.heap.size + 1 + 1 + 1 + 1 + 4 := by rw [HSZ.out]; simp
  have hB0 : Below w.heap.size w ((((w.alloc (.cells #[.int .i64 p] 3)).alloc (.cells #[.int .i64 s] 3)).alloc (.cells #[.int .i64 0] 3)).alloc (.cells #[.int .i64 0] 3)) := ((((Below.refl _ w).alloc (Nat.le_refl _) _).alloc (by simp) _).alloc (by simp; omega) _).alloc (by simp; omega) _
  have hPw : Pure w w2 := (Upd.of_below hB0).trans HU.out (fun _ _ h => h)
  have hbk : ∀ (k : Nat) (o : Obj), k < w.heap.size + 1 + 1 + 1 + 1 → ((((w.alloc (.cells #[.int .i64 p] 3)).alloc (.cells #[.int .i64 s] 3)).alloc (.cells #[.int .i64 0] 3)).alloc (.cells #[.int .i64 0] 3)).heap[k]? = some o → w2.heap[k]? = some o := fun k o hk h => (HU.out.block k (by simp; omega) (fun h => h)).trans h
  have bk0 : w2.heap[w.heap.size]? = some (.cells #[.int .i64 p] 3 (0, 0)) := hbk _ _ (by omega) ((Below.heap_alloc _ _ _ (by simp; try omega)).trans ((Below.heap_alloc _ _ _ (by simp; try omega)).trans ((Below.heap_alloc _ _ _ (by simp; try omega)).trans (heap_alloc_new w _))))
  have bk1 : w2.heap[w.heap.size + 1]? = some (.cells #[.int .i64 s] 3 (0, 0)) := hbk _ _ (by omega) (by
    refine (Below.heap_alloc _ _ _ (by simp; try omega)).trans ((Below.heap_alloc _ _ _ (by simp; try omega)).trans ?_)
    have := heap_alloc_new (w.alloc (.cells #[.int .i64 p] 3)) (.cells #[.int .i64 s] 3)
    simpa using this)
  have bk2 : w2.heap[w.heap.size + 1 + 1]? = some (.cells #[.int .i64 0] 3 (0, 0)) := hbk _ _ (by omega) (by
    refine (Below.heap_alloc _ _ _ (by simp; try omega)).trans ?_
    have := heap_alloc_new ((w.alloc (.cells #[.int .i64 p] 3)).alloc (.cells #[.int .i64 s] 3)) (.cells #[.int .i64 0] 3)
    simpa using this)
  have bk3 : w2.heap[w.heap.size + 1 + 1 + 1]? = some (.cells #[.int .i64 0] 3 (0, 0)) := hbk _ _ (by omega) (by
    have := heap_alloc_new (((w.alloc (.cells #[.int .i64 p] 3)).alloc (.cells #[.int .i64 s] 3)).alloc (.cells #[.int .i64 0] 3)) (.cells #[.int .i64 0] 3)
    simpa using this)
  have cel : ∀ {k : Nat} {v : Value}, w2.heap[k]? = some (.cells #[v] 3 (0, 0)) → w2.cell? ⟨k, 0, none⟩ = some v ∧ w2.frozen? ⟨k, 0, none⟩ = false := fun {k v} hk => ⟨by unfold World.cell?; simp only [hk]; rfl, by simp [World.frozen?, hk]⟩
  have hBel : Below w.heap.size w w2 := hPw.below
  have hlen := hb
  refine wpIn_rangeFunc_ownF rfl (by omega) (gf := 35) (lb := #[.pointer (some ⟨w.heap.size + 1 + 1 + 1 + 1 + 2, 0, none⟩), .pointer (some ⟨w.heap.size + 1 + 1 + 1 + 1 + 1, 0, none⟩), .pointer (some ⟨w.heap.size + 1 + 1 + 1 + 1 + 3, 0, none⟩), .pointer (some ⟨w.heap.size + 1 + 1 + 1 + 1, 0, none⟩)]) rfl trivial (enters_of Tryd.func35 (by kernel_rfl) rfl)
    (texts_stops 5 (by omega) (w0 := w) (w := w2) (p := p) (s := s) (B := w.heap.size + 1 + 1 + 1 + 1) h hr hb hlc ok hs (by omega) hPw (by omega) (by simpa using HX.out)) KpT.trans
    (fun W l0 o o' hl _ _ _ => (grown_upd (grownBy_putObj' W l0 o')).mono (fun k _ e => by injection e with e; omega)) (Below.refl _ _) (fun _ => rfl)
    (fun pre W => (pre = [] ∧ W.cell? ⟨w.heap.size, 0, none⟩ = some (.int .i64 p) ∧ W.cell? ⟨w.heap.size + 1, 0, none⟩ = some (.int .i64 s) ∧ W.cell? ⟨w.heap.size + 1 + 1, 0, none⟩ = some (.int .i64 0) ∧ W.frozen? ⟨w.heap.size + 1 + 1, 0, none⟩ = false ∧ W.cell? ⟨w.heap.size + 1 + 1 + 1, 0, none⟩ = some (.int .i64 0) ∧ W.frozen? ⟨w.heap.size + 1 + 1 + 1, 0, none⟩ = false) ∧ Below w.heap.size w W)
    (fun cc pre W => (cc = .ret ∧ ∃ x, pre = [x] ∧ W.cell? ⟨w.heap.size + 1 + 1, 0, none⟩ = some (.int .i64 x) ∧ W.cell? ⟨w.heap.size + 1 + 1 + 1, 0, none⟩ = some (.int .i64 (IntKind.i64.wrap (IntKind.i64.wrap (x - p) * s)))) ∧ Below w.heap.size w W)
    (OwnFrom.and (Own.from (fun pre X Y row hh hg hrw => ⟨hh.1, cell_kept hh.2.1 hg hrw, cell_kept hh.2.2.1 hg hrw, cell_kept hh.2.2.2.1 hg hrw, (frozen_kept hh.2.2.2.1 hg hrw).trans hh.2.2.2.2.1, cell_kept hh.2.2.2.2.2.1 hg hrw, (frozen_kept hh.2.2.2.2.2.1 hg hrw).trans hh.2.2.2.2.2.2⟩) _) (ownFrom_below (Nat.le_refl _) (by omega)))
    (fun cc => OwnFrom.and (Own.from (fun pre X Y row hh hg hrw => by obtain ⟨h1, x, h2, h3, h4⟩ := hh; exact ⟨h1, x, h2, cell_kept h3 hg hrw, cell_kept h4 hg hrw⟩) _) (ownFrom_below (Nat.le_refl _) (by omega)))
    ⟨⟨rfl, (cel bk0).1, (cel bk1).1, (cel bk2).1, (cel bk2).2, (cel bk3).1, (cel bk3).2⟩, hBel⟩
    (fun x => { tmps := #[.pointer (some ⟨cb, 0, none⟩), .slice A l.length c, .int .i64 p, .int .i64 s, undef, undef, .pointer (some ⟨w.heap.size, 0, none⟩), .pointer (some ⟨w.heap.size + 1, 0, none⟩), .pointer (some ⟨w.heap.size + 1 + 1, 0, none⟩), .pointer (some ⟨w.heap.size + 1 + 1 + 1, 0, none⟩), .int .i64 x, .pointer (some ⟨cb, 0, none⟩), .slice A l.length c, .int .i64 p, .int .i64 s, .func (.func 35) #[] #[.pointer (some ⟨w.heap.size + 1 + 1 + 1 + 1 + 2, 0, none⟩), .pointer (some ⟨w.heap.size + 1 + 1 + 1 + 1 + 1, 0, none⟩), .pointer (some ⟨w.heap.size + 1 + 1 + 1 + 1 + 3, 0, none⟩), .pointer (some ⟨w.heap.size + 1 + 1 + 1 + 1, 0, none⟩)], .int .i64 x, undef, undef, undef, undef, undef, undef, undef, undef, undef], defers := [] }) ?assign ?body ?done ?stop
  case assign =>
    intro lp x W K hK
    gi_wp2
    exact hK
  case body =>
    rintro lp pre x W ⟨⟨rfl, q0, q1, q2, q3, q4, q5⟩, hB⟩ _
    gi_wp2
    have h2 := As.mk (two_sets (.int .i64 x) (.int .i64 (IntKind.i64.wrap (IntKind.i64.wrap (x - p) * s))) q2 q4 (by omega) hB (by omega) (by omega))
    clear HX HU hTC h hr bk0 bk1 bk2 bk3
    gi_region
    all_goals gi_wp2
    all_goals exact ⟨h2.out.1.trans (KeepsOthers.drew _), ⟨rfl, x, rfl, h2.out.2.1, h2.out.2.2.1⟩, h2.out.2.2.2.drew⟩
  case done =>
    rintro D ys W hD rfl ⟨⟨hnil, q0, q1, q2, q3, q4, q5⟩, hB⟩ hK
    have hfv : firstV l s p = (0, (l.length : Int) + 1) := by unfold firstV; rw [hnil]
    have hwl : IntKind.i64.wrap ((l.length : Int) + 1) = (l.length : Int) + 1 := IntWalk.i64_in _ (by omega)
    gi_wp2
    have h2 := two_sets (.int .i64 0) (.int .i64 ((l.length : Int) + 1)) q2 q4 (by omega) hB (by omega) (by omega)
    have hK' := h2.1.same D _ hK rfl
    refine ⟨by simp, .inl ⟨_, _, rfl, run_takeDeferred hK', ?_⟩⟩
    have hc8 := cell_kept h2.2.1 (grownBy_putObj' _ D (.deferred none)) (fun r e => by cases e; exact ⟨_, hK', rfl⟩)
    have hc9 := cell_kept h2.2.2.1 (grownBy_putObj' _ D (.deferred none)) (fun r e => by cases e; exact ⟨_, hK', rfl⟩)
    refine ⟨.tuple #[.int .i64 0, .int .i64 ((l.length : Int) + 1)], ?_, by rw [hfv], Upd.of_below (h2.2.2.2.trans (belowK_b (w := w) (Nat.le_refl _) _ D _ _ (by omega) hK' rfl rfl))⟩
    simp [results, Tryd.f17, go_sem, hc8, hc9]
  case stop =>
    rintro D cc pre W hD hpre ⟨⟨rfl, x, rfl, q2, q4⟩, hB⟩ hK
    obtain ⟨rest, hrest⟩ := hpre
    have hpl : places l s p = x :: rest := hrest.symm
    have hfv : firstV l s p = (x, (x - p) * s) := by unfold firstV; rw [hpl]
    have hxr : 0 ≤ x ∧ x ≤ (l.length : Int) := by
      have hm : x ∈ places l s p := by rw [hpl]; simp
      exact mayF_in (plc_may l s _ _ x hm)
    have hw1 : IntKind.i64.wrap (x - p) = x - p := IntWalk.i64_in _ (by omega)
    have hw2 : IntKind.i64.wrap ((x - p) * s) = (x - p) * s := by
      apply IntWalk.i64_in
      rcases hs with rfl | rfl <;> omega
    rw [hw1, hw2] at q4
    gi_wp2
    refine ⟨by simp, .inl ⟨_, _, rfl, run_takeDeferred hK, ?_⟩⟩
    have hc8 := cell_kept q2 (grownBy_putObj' _ D (.deferred none)) (fun r e => by cases e; exact ⟨_, hK, rfl⟩)
    have hc9 := cell_kept q4 (grownBy_putObj' _ D (.deferred none)) (fun r e => by cases e; exact ⟨_, hK, rfl⟩)
    refine ⟨.tuple #[.int .i64 x, .int .i64 ((x - p) * s)], ?_, by rw [hfv], Upd.of_below (hB.trans (belowK_b (w := w) (Nat.le_refl _) _ D _ _ (by omega) hK rfl rfl))⟩
    simp [results, Tryd.f17, go_sem, hc8, hc9]
end Go.Proofs.YtfapglhdakhbeaaDoor
