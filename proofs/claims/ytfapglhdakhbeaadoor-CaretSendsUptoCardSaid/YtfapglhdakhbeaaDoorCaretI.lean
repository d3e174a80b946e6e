/- caret.texts: its iterator's contract. -/
import Derived.Test.YtfapglhdakhbeaaDoorCaretP
import Derived.RangeFuncFrom
import Derived.RangeFuncNested
import Derived.RangeFuncBound
import Derived.RangeFuncCalls
import Derived.RangeFuncLeaves
import Derived.Shelf.Abstract
import Derived.Shelf.RegionOpen
import Derived.OwnWalkIn
import Derived.TacticsInMore
import Derived.LoopNIn
import Derived.LoopIn
namespace Go.Proofs.YtfapglhdakhbeaaDoor
open Go.RowKit Go.Shelf
set_option linter.unusedVariables false
set_option linter.unusedSimpArgs false

attribute [local go_sem] Oper.semAt_some

/-- What a round keeps: all below n₀, and the iterator's own boxes. -/
def KpT (n₀ B : Nat) (W W' : World) : Prop := Upd (fun k => n₀ ≤ k ∧ (k < B ∨ B + 4 ≤ k)) W W'
theorem KpT.trans {n₀ B : Nat} {X Y Z : World} (h : KpT n₀ B X Y) (k : KpT n₀ B Y Z) : KpT n₀ B X Z := Upd.trans h k (fun _ _ h => h)
theorem KpT.of_pure {n₀ B : Nat} {X Y : World} (h : Pure X Y) : KpT n₀ B X Y := h.mono (fun _ _ h => h.elim)
theorem pure_grown {w w1 : World} (h : Pure w w1) : w.grownBy w1 none := ⟨h.os, h.tape, h.output, h.size, fun k hk _ => h.block k hk (fun h => h)⟩
theorem grown_upd {w w1 : World} {row : Option Nat} (hg : w.grownBy w1 row) : Upd (fun k => row = some k) w w1 := Upd.grown1 hg (fun _ e => e)
/-- The iterator's boxes. -/
structure Boxes (W : World) (B cb : Nat) (A : Option Addr) (n c : Nat) (p s : Int) : Prop where
  b0 : W.heap[B]? = some (.cells #[.pointer (some ⟨cb, 0, none⟩)] 38 (0, 0))
  b1 : W.heap[B + 1]? = some (.cells #[.slice A n c] 42 (0, 0))
  b2 : W.heap[B + 2]? = some (.cells #[.int .i64 p] 3 (0, 0))
  b3 : W.heap[B + 3]? = some (.cells #[.int .i64 s] 3 (0, 0))
theorem Boxes.upd {W W' : World} {B cb : Nat} {A : Option Addr} {n c : Nat} {p s : Int} {S : Nat → Prop} (h : Boxes W B cb A n c p s) (hu : Upd S W W') (hs : ∀ k, B ≤ k → k < B + 4 → ¬ S k) : Boxes W' B cb A n c p s :=
  ⟨(hu.block _ (Array.getElem?_eq_some_iff.1 h.b0).1 (hs _ (by omega) (by omega))).trans h.b0, (hu.block _ (Array.getElem?_eq_some_iff.1 h.b1).1 (hs _ (by omega) (by omega))).trans h.b1, (hu.block _ (Array.getElem?_eq_some_iff.1 h.b2).1 (hs _ (by omega) (by omega))).trans h.b2, (hu.block _ (Array.getElem?_eq_some_iff.1 h.b3).1 (hs _ (by omega) (by omega))).trans h.b3⟩
theorem Boxes.cells {W : World} {B cb : Nat} {A : Option Addr} {n c : Nat} {p s : Int} (h : Boxes W B cb A n c p s) : W.cell? ⟨B, 0, none⟩ = some (.pointer (some ⟨cb, 0, none⟩)) ∧ W.cell? ⟨B + 1, 0, none⟩ = some (.slice A n c) ∧ W.cell? ⟨B + 2, 0, none⟩ = some (.int .i64 p) ∧ W.cell? ⟨B + 3, 0, none⟩ = some (.int .i64 s) := by
  refine ⟨?_, ?_, ?_, ?_⟩
  · unfold World.cell?; simp only [h.b0]; rfl
  · unfold World.cell?; simp only [h.b1]; rfl
  · unfold World.cell?; simp only [h.b2]; rfl
  · unfold World.cell?; simp only [h.b3]; rfl
set_option maxRecDepth 100000 in
set_option maxHeartbeats 4000000 in
theorem texts_calls (w : World) (cb : Nat) (A : Option Addr) (n c : Nat) (p s : Int) : Calls Tryd.prog 22 #[.pointer (some ⟨cb, 0, none⟩), .slice A n c, .int .i64 p, .int .i64 s] w fun r w' => r = .returned (.func (.func 35) #[] #[.pointer (some ⟨w.heap.size + 2, 0, none⟩), .pointer (some ⟨w.heap.size + 1, 0, none⟩), .pointer (some ⟨w.heap.size + 3, 0, none⟩), .pointer (some ⟨w.heap.size, 0, none⟩)]) ∧ Boxes w' w.heap.size cb A n c p s ∧ Pure w w' ∧ w'.heap.size = w.heap.size + 4 := by
  go_enter Tryd.func22, Tryd.ntmps22
  go_wp2
  go_ret
  refine ⟨rfl, ⟨?_, ?_, ?_, ?_⟩, (((Upd.alloc1 _ _ _).alloc _).alloc _).alloc _, by simp⟩
  · exact (Below.heap_alloc _ _ _ (by simp; try omega)).trans ((Below.heap_alloc _ _ _ (by simp; try omega)).trans ((Below.heap_alloc _ _ _ (by simp; try omega)).trans (heap_alloc_new w _)))
  · refine (Below.heap_alloc _ _ _ (by simp; try omega)).trans ((Below.heap_alloc _ _ _ (by simp; try omega)).trans ?_)
    have := heap_alloc_new (w.alloc (.cells #[.pointer (some ⟨cb, 0, none⟩)] 38)) (.cells #[.slice A n c] 42)
    simpa using this
  · refine (Below.heap_alloc _ _ _ (by simp; try omega)).trans ?_
    have := heap_alloc_new ((w.alloc (.cells #[.pointer (some ⟨cb, 0, none⟩)] 38)).alloc (.cells #[.slice A n c] 42)) (.cells #[.int .i64 p] 3)
    simpa using this
  · have := heap_alloc_new (((w.alloc (.cells #[.pointer (some ⟨cb, 0, none⟩)] 38)).alloc (.cells #[.slice A n c] 42)).alloc (.cells #[.int .i64 p] 3)) (.cells #[.int .i64 s] 3)
    simpa using this
set_option maxRecDepth 100000 in
set_option maxHeartbeats 4000000 in
theorem texts_stops (n : Nat) (hn : 1 ≤ n) {w0 w : World} {cb : Nat} {F : Nat → Prop} {A : Option Addr} {c : Nat} {l : List Tok} {p s : Int} {B : Nat} (h : SchR w0 cb houseRules houseGroups) (hr : tokR.row w0 F A l) (hb : l.length ≤ 200) (hlc : l.length ≤ c) (ok : (houseCheck l).2 = 0) (hs : s = 1 ∨ s = -1) (hp : -2 ≤ p ∧ p ≤ (l.length : Int) + 2) (hw : Pure w0 w) (hB : w0.heap.size ≤ B) (hx : Boxes w B cb A l.length c p s) :
    SeqStopsK Fence.wide n Tryd.prog 35 #[.pointer (some ⟨B + 2, 0, none⟩), .pointer (some ⟨B + 1, 0, none⟩), .pointer (some ⟨B + 3, 0, none⟩), .pointer (some ⟨B, 0, none⟩)] (fun x : Int => #[Value.int .i64 x]) (KpT w0.heap.size B) (fun ys => ys = places l s p) (fun pre => pre <+: places l s p) (places l s p).length w := fun lp J Jx W hW hJ hJx hY h0 => by
  have hWu : Pure w W := Upd.of_below hW
  have hx1 := hx.upd hWu (fun _ _ _ h => h)
  have hM := As.mk (fun (V : World) (hu : Pure w0 V) (q : Int) => may_text (h.pure hu) (Rp.row_pure hr hu) hb hlc ok q)
  have hE := enough_places l hs p
  have hpl : places l s p = plc l s (l.length + 2 + p.natAbs) p := rfl
  have hw0 := As.mk (hw.trans hWu (fun _ _ h => h))
  refine callsIn_of_wp Tryd.func35 rfl trivial ?_ rfl
  simp only [Tryd.ntmps35, List.size_toArray, List.length_cons, List.length_nil, Nat.reduceAdd, Nat.reduceSub, Array.replicate_succ, Array.replicate_zero, List.push_toArray, List.append_toArray, List.nil_append, List.cons_append]
  obtain ⟨k0, k1, k2, k3⟩ := hx1.cells
  gi_wp2
  gi_loopw [6] (fun i wr => ∃ (f : Nat) (q : Int) (pre : List Int), i = .int .i64 q ∧ -2 ≤ q ∧ q ≤ (l.length : Int) + 2 ∧ As (places l s p = pre ++ plc l s f q ∧ Enough l s f q) ∧ As (J pre wr) ∧ As (Boxes wr B cb A l.length c p s) ∧ As (Pure w0 wr))
    (fun i _ => if s = 1 then ((l.length : Int) + 5 - intOf i).toNat else (intOf i + 5).toNat)
  case atStart => exact ⟨_, p, [], rfl, by omega, by omega, ⟨hpl, hE⟩, ⟨h0⟩, ⟨hx1⟩, hw0⟩
  case round =>
    obtain ⟨f, q, pre, rfl, hq1, hq2, HP, HJ, HX, HU⟩ := hrel
    obtain ⟨k0, k1, k2, k3⟩ := HX.out.cells
    by_cases hq : 0 ≤ q ∧ q ≤ (l.length : Int)
    · obtain ⟨g, rfl⟩ := HP.out.2.pos hq
      have hpl2 := HP.out.1
      rw [plc, if_pos hq] at hpl2
      have hen := HP.out.2.next
      have u1 : decide (q ≥ 0) = true := by simpa using hq.1
      have u2 : decide (0 ≤ q) = true := by simpa using hq.1
      have u3 : decide (q ≤ (l.length : Int)) = true := by simpa using hq.2
      have hwr : IntKind.i64.wrap (q + s) = q + s := by
        apply IntWalk.i64_in
        rcases hs with rfl | rfl <;> omega
      have HS2 := As.mk hs
      have HM2 := As.mk (hM.out _ HU.out q)
      have HB2 := As.mk (And.intro hq.1 hq.2)
      cases hm : mayF l q
      · rw [hm] at hpl2 HM2
        simp only [Bool.false_eq_true, if_false] at hpl2
        have HPL := As.mk (And.intro hpl2 hen)
        clear hq hpl2 hen hm HP
        gi_wp2_with (refine ⟨trivial, ?_⟩; gi_at_call 36; refine (callsIn_wide.2 HM2.out).mono ?_; rintro e w1 ⟨rfl, hu⟩; have HU1 := As.mk hu; clear hu; apply As.out)
        refine ⟨?_⟩
        obtain ⟨m0, m1, m2, m3⟩ := (HX.out.upd HU1.out (fun _ _ _ h => h)).cells
        gi_wp2
        refine ⟨fun _ h => (by cases h), ?_⟩
        gi_wp2
        go_roundw
        case measure =>
          simp only [intOf]
          rcases HS2.out with rfl | rfl
          · simp; omega
          · simp; omega
        case rel => exact ⟨g, q + s, pre, rfl, by rcases HS2.out with rfl | rfl <;> have := HB2.out <;> omega, by rcases HS2.out with rfl | rfl <;> have := HB2.out <;> omega, HPL, ⟨hJ _ _ _ none HJ.out (pure_grown HU1.out) (fun _ e => by cases e)⟩, ⟨HX.out.upd HU1.out (fun _ _ _ h => h)⟩, ⟨HU.out.trans HU1.out (fun _ _ h => h)⟩⟩
      · rw [hm] at hpl2 HM2
        simp only [if_true] at hpl2
        have HPL := As.mk (And.intro (show places l s p = (pre ++ [q]) ++ plc l s g (q + s) by rw [hpl2]; simp) hen)
        have hlen : pre.length < (places l s p).length := by rw [hpl2]; simp
        clear hq hpl2 hen hm HP
        gi_wp2_with (refine ⟨trivial, ?_⟩; gi_at_call 36; refine (callsIn_wide.2 HM2.out).mono ?_; rintro e w1 ⟨rfl, hu⟩; have HU1 := As.mk hu; clear hu; apply As.out)
        refine ⟨?_⟩
        have hJ1 := hJ _ _ _ none HJ.out (pure_grown HU1.out) (fun _ e => by cases e)
        obtain ⟨fn, tmps, assign, body, hy, hR⟩ := hY pre q w1 hJ1 hlen
        gi_wp2
        refine hR.mono ?_
        rintro e W3 (⟨rfl, hJ3, hk3⟩ | ⟨rfl, hJx3⟩)
        · have HX3 := As.mk ((HX.out.upd HU1.out (fun _ _ _ h => h)).upd hk3 (fun k hk1 hk2 h => by omega))
          have HU3 := As.mk (Upd.trans (HU.out.trans HU1.out (fun _ _ h => h)) hk3 (fun k hk h => by omega) : Pure w0 W3)
          obtain ⟨m0, m1, m2, m3⟩ := HX3.out.cells
          gi_wp2
          go_roundw
          case measure =>
            simp only [intOf]
            rcases HS2.out with rfl | rfl
            · simp; omega
            · simp; omega
          case rel => exact ⟨g, q + s, pre ++ [q], rfl, by rcases HS2.out with rfl | rfl <;> have := HB2.out <;> omega, by rcases HS2.out with rfl | rfl <;> have := HB2.out <;> omega, HPL, ⟨hJ3⟩, HX3, HU3⟩
        · gi_wp2
          refine bodyPost_ret (results_none rfl _ _ _) rfl ?_
          exact ⟨⟨_, rfl⟩, .inr ⟨pre ++ [q], ⟨_, HPL.out.1.symm⟩, hJx3⟩⟩
    · have hfin : plc l s f q = [] := by
        cases f with
        | zero => rfl
        | succ f => rw [plc, if_neg hq]
      have hpl2 := HP.out.1
      rw [hfin, List.append_nil] at hpl2
      have HPL := As.mk hpl2
      clear hpl2 hfin HP
      cases b1 : decide (0 ≤ q)
      · have u1 : decide (q ≥ 0) = false := b1
        gi_wp2
        go_end0
        exact ⟨⟨_, rfl⟩, .inl ⟨_, HPL.out.symm, HJ.out⟩⟩
      · have u1 : decide (q ≥ 0) = true := b1
        have u2 : decide (q ≤ (l.length : Int)) = false := by
          have := of_decide_eq_true b1
          rw [decide_eq_false_iff_not]; omega
        gi_wp2
        go_end0
        exact ⟨⟨_, rfl⟩, .inl ⟨_, HPL.out.symm, HJ.out⟩⟩
end Go.Proofs.YtfapglhdakhbeaaDoor
