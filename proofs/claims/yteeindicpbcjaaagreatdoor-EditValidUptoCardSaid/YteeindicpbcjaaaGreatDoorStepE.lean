/- step.do: what a step that puts tokens leaves. -/
import Derived.Test.YteeindicpbcjaaaGreatDoorStepD
import Derived.Test.YteeindicpbcjaaaGreatDoorEditQ
import Derived.Test.YteeindicpbcjaaaGreatDoorHeldZ
namespace Go.Proofs.YteeindicpbcjaaaGreatDoor
open Go.RowKit
set_option linter.unusedVariables false
set_option linter.unusedSimpArgs false

/-- A fresh row of tokens is answered. -/
def Fresh (w : World) (l : List Tok) (r : Ending) (w' : World) : Prop := (∃ B, r = .returned (.slice (some B) l.length l.length) ∧ tokR.row w' (fun k => w.heap.size ≤ k) (some B) l) ∧ Pure w w'
theorem Fresh.of {w W : World} {l : List Tok} {r : Ending} {w' : World} (hu : Pure w W) {B : Addr} {n : Nat} (hr : r = .returned (.slice (some B) n n)) (hn : l.length = n) (hrow : tokR.row w' (fun k => W.heap.size ≤ k) (some B) l) (hp : Pure W w') : Fresh w l r w' := by
  subst hn
  exact ⟨⟨B, hr, Rp.row_fp hrow (fun k h => Nat.le_trans hu.size h)⟩, hu.trans hp (fun _ _ h => h)⟩
set_option maxRecDepth 100000 in
set_option maxHeartbeats 4000000 in
theorem do_repl_some {w : World} {F G : Nat → Prop} {b o : Nat} {A B : Option Addr} {c cb : Nat} {l sl : List Tok} {p q : Nat} (hr : tokR.row w F (some ⟨b, o, none⟩) l) (hlc : l.length ≤ c) (hs : tokR.row w G B sl) (hsc : sl.length ≤ cb) (hb : l.length + sl.length ≤ 100000) (hp : p ≤ q) (hq : q ≤ l.length) :
    Calls Tryz.prog 43 #[.slice (some ⟨b, o, none⟩) l.length c, (repl p q sl).val B cb] w (Fresh w (l.take p ++ (sl ++ l.drop q))) := by
  have hbox := Upd.alloc1 (fun _ => False) w (.cells #[.int .i64 0, .int .i64 (p : Nat), .int .i64 (q : Nat), .int .i64 0, .int .i64 0, .int .i64 0, .slice B sl.length cb, .int .i64 0] 27)
  have hblk := heap_alloc_new w (.cells #[.int .i64 0, .int .i64 (p : Nat), .int .i64 (q : Nat), .int .i64 0, .int .i64 0, .int .i64 0, .slice B sl.length cb, .int .i64 0] 27)
  have h1 := TokS.take (m := p) hr (by omega) hlc rfl
  have h2 := TokS.whole hs hsc rfl
  have h3 := TokS.cut (m := l.length - q) (c' := c - q) hr hq hlc rfl rfl
  have HT := As.mk (fun (W : World) (hu : Pure w W) (blk : Nat) (e : TypeId) (fr : Nat × Nat) hblk => tokens3 (x0 := l.take p) (x1 := sl) (x2 := l.drop q) (by rw [List.length_take, List.length_drop]; omega) W hu (blk := blk) (e := e) (fr := fr) hblk h1 h2 h3)
  have HB := As.mk hbox
  have HBK := As.mk (fun (cs : Array Value) (T : TypeId) => (by
    have h := heap_alloc_new (w.alloc (.cells #[.int .i64 0, .int .i64 (p : Nat), .int .i64 (q : Nat), .int .i64 0, .int .i64 0, .int .i64 0, .slice B sl.length cb, .int .i64 0] 27)) (.cells cs T)
    rw [World.size_alloc] at h
    exact h : (((w.alloc (.cells #[.int .i64 0, .int .i64 (p : Nat), .int .i64 (q : Nat), .int .i64 0, .int .i64 0, .int .i64 0, .slice B sl.length cb, .int .i64 0] 27)).alloc (.cells cs T)).drew).heap[w.heap.size + 1]? = some (.cells cs T (0, 0))))
  have q0 : ∀ v, Pure (w.alloc (.cells #[.int .i64 0, .int .i64 (p : Nat), .int .i64 (q : Nat), .int .i64 0, .int .i64 0, .int .i64 0, .slice B sl.length cb, .int .i64 0] 27)) v → v.cell? ⟨w.heap.size, 1, none⟩ = some (.int .i64 (p : Nat)) ∧ v.cell? ⟨w.heap.size, 2, none⟩ = some (.int .i64 (q : Nat)) ∧ v.cell? ⟨w.heap.size, 6, none⟩ = some (.slice B sl.length cb) := fun v hu => by
    have := (hu.block w.heap.size (by simp) (fun h => h)).trans hblk
    refine ⟨?_, ?_, ?_⟩ <;> (unfold World.cell?; simp only [this]; rfl)
  have HQ := As.mk q0
  have i1 : (0 : Int) ≤ ((p : Nat) : Int) := by omega
  have i2 : ((p : Nat) : Int) ≤ ((c : Nat) : Int) := by omega
  have i3 : (0 : Int) ≤ ((q : Nat) : Int) := by omega
  have i4 : ((q : Nat) : Int) ≤ ((l.length : Nat) : Int) := by omega
  have i5 : ((q : Nat) : Int) ≤ ((c : Nat) : Int) := by omega
  have i6 : ((l.length : Nat) : Int) ≤ ((c : Nat) : Int) := by omega
  clear hr hs h1 h2 h3 hbox hblk q0
  unfold StepD.val repl
  go_enter Tryz.func43, Tryz.ntmps43
  go_wp2
  refine wp_region_T (P := Tryz.prog) (fun v => v.cell? ⟨w.heap.size, 1, none⟩ = some (.int .i64 (p : Nat)) ∧ v.cell? ⟨w.heap.size, 2, none⟩ = some (.int .i64 (q : Nat)) ∧ v.cell? ⟨w.heap.size, 6, none⟩ = some (.slice B sl.length cb)) 12 (by kernel_rfl) ?_ (fun hHeld => ?_)
  · first | exact HQ.out _ ((Upd.refl _ _).drew) | exact HQ.out _ (((Upd.refl _ _).alloc _).drew) | exact HQ.out _ ((((Upd.refl _ _).alloc _).drew).trans hu3 (fun _ _ h => h))
  refine zT 0 ?_
  refine zT 1 ?_
  refine zT 2 ?_
  refine zT 3 ?_
  (try simp only [Act.put, List.setIfInBounds_toArray, List.set_cons_zero, List.set_cons_succ])
  refine zT 4 ?_
  refine zT 5 ?_
  refine zT 6 ?_
  refine zT 7 ?_
  (try simp only [Act.put, List.setIfInBounds_toArray, List.set_cons_zero, List.set_cons_succ])
  refine zT 8 ?_
  refine zT 9 ?_
  refine oT 10 (fun K hK => ?_)
  go_simp
  refine hK.out _ _ (fun _ => by first | exact HQ.out _ ((Upd.refl _ _).drew) | exact HQ.out _ (((Upd.refl _ _).alloc _).drew) | exact HQ.out _ ((((Upd.refl _ _).alloc _).drew).trans hu3 (fun _ _ h => h))) (fun hHeld => ?_)
  replace hHeld := hHeld (by decide)
  clear hK K
  (try simp only [Act.put, List.setIfInBounds_toArray, List.set_cons_zero, List.set_cons_succ])
  refine oT 11 (fun K hK => ?_)
  go_simp
  (go_at_call 71; with_reducible refine (HT.out _ ((HB.out.alloc _).drew) _ _ _ (HBK.out _ _)).mono ?_; rintro e w3 ⟨⟨B3, rfl, hrow3⟩, hu3⟩)
  refine hK.out _ _ (fun _ => by first | exact HQ.out _ ((Upd.refl _ _).drew) | exact HQ.out _ (((Upd.refl _ _).alloc _).drew) | exact HQ.out _ ((((Upd.refl _ _).alloc _).drew).trans hu3 (fun _ _ h => h))) (fun hHeld => ?_)
  replace hHeld := hHeld (by decide)
  clear hK K
  (try simp only [Act.put, List.setIfInBounds_toArray, List.set_cons_zero, List.set_cons_succ])
  refine oT 12 (fun K hK => ?_)
  go_simp
  refine hK.out _ _ (fun h => absurd rfl h) (fun hHeld => ?_)
  clear hK K
  (try simp only [Act.put, List.setIfInBounds_toArray, List.set_cons_zero, List.set_cons_succ])
  refine wpAnyT_done (by kernel_rfl) ?_ _
  go_wp2
  all_goals go_ret
  all_goals exact Fresh.of ((HB.out.alloc _).drew) rfl (by first | (simp; done) | (simp; omega)) hrow3 hu3
set_option maxRecDepth 100000 in
set_option maxHeartbeats 4000000 in
theorem do_repl_none {w : World} {G : Nat → Prop} {B : Option Addr} {cb : Nat} {sl : List Tok} (hs : tokR.row w G B sl) (hsc : sl.length ≤ cb) (hb : sl.length ≤ 100000) :
    Calls Tryz.prog 43 #[.slice none 0 0, (repl 0 0 sl).val B cb] w (Fresh w sl) := by
  have hbox := Upd.alloc1 (fun _ => False) w (.cells #[.int .i64 0, .int .i64 0, .int .i64 0, .int .i64 0, .int .i64 0, .int .i64 0, .slice B sl.length cb, .int .i64 0] 27)
  have hblk := heap_alloc_new w (.cells #[.int .i64 0, .int .i64 0, .int .i64 0, .int .i64 0, .int .i64 0, .int .i64 0, .slice B sl.length cb, .int .i64 0] 27)
  have h1 : TokS w (fun _ => True) (.slice none 0 0) [] := ⟨none, 0, rfl, Nat.le_refl _, .inl rfl⟩
  have h2 := TokS.whole hs hsc rfl
  have HT := As.mk (fun (W : World) (hu : Pure w W) (blk : Nat) (e : TypeId) (fr : Nat × Nat) hblk => tokens3 (x0 := []) (x1 := sl) (x2 := []) (by simp; omega) W hu (blk := blk) (e := e) (fr := fr) hblk h1 h2 h1)
  simp only [List.nil_append, List.append_nil] at HT
  have HB := As.mk hbox
  have HBK := As.mk (fun (cs : Array Value) (T : TypeId) => (by
    have h := heap_alloc_new (w.alloc (.cells #[.int .i64 0, .int .i64 0, .int .i64 0, .int .i64 0, .int .i64 0, .int .i64 0, .slice B sl.length cb, .int .i64 0] 27)) (.cells cs T)
    rw [World.size_alloc] at h
    exact h : (((w.alloc (.cells #[.int .i64 0, .int .i64 0, .int .i64 0, .int .i64 0, .int .i64 0, .int .i64 0, .slice B sl.length cb, .int .i64 0] 27)).alloc (.cells cs T)).drew).heap[w.heap.size + 1]? = some (.cells cs T (0, 0))))
  have q0 : ∀ v, Pure (w.alloc (.cells #[.int .i64 0, .int .i64 0, .int .i64 0, .int .i64 0, .int .i64 0, .int .i64 0, .slice B sl.length cb, .int .i64 0] 27)) v → v.cell? ⟨w.heap.size, 1, none⟩ = some (.int .i64 0) ∧ v.cell? ⟨w.heap.size, 2, none⟩ = some (.int .i64 0) ∧ v.cell? ⟨w.heap.size, 6, none⟩ = some (.slice B sl.length cb) := fun v hu => by
    have := (hu.block w.heap.size (by simp) (fun h => h)).trans hblk
    refine ⟨?_, ?_, ?_⟩ <;> (unfold World.cell?; simp only [this]; rfl)
  have HQ := As.mk q0
  clear hs h1 h2 hbox hblk q0
  unfold StepD.val repl
  go_enter Tryz.func43, Tryz.ntmps43
  go_wp2
  refine wp_region_T (P := Tryz.prog) (fun v => v.cell? ⟨w.heap.size, 1, none⟩ = some (.int .i64 0) ∧ v.cell? ⟨w.heap.size, 2, none⟩ = some (.int .i64 0) ∧ v.cell? ⟨w.heap.size, 6, none⟩ = some (.slice B sl.length cb)) 12 (by kernel_rfl) ?_ (fun hHeld => ?_)
  · first | exact HQ.out _ ((Upd.refl _ _).drew) | exact HQ.out _ (((Upd.refl _ _).alloc _).drew) | exact HQ.out _ ((((Upd.refl _ _).alloc _).drew).trans hu3 (fun _ _ h => h))
  refine zT 0 ?_
  refine zT 1 ?_
  refine zT 2 ?_
  (try simp only [Act.put, List.setIfInBounds_toArray, List.set_cons_zero, List.set_cons_succ])
  refine zT 3 ?_
  refine zT 4 ?_
  refine zT 5 ?_
  refine zT 6 ?_
  (try simp only [Act.put, List.setIfInBounds_toArray, List.set_cons_zero, List.set_cons_succ])
  refine zT 7 ?_
  refine zT 8 ?_
  refine zT 9 ?_
  refine oT 10 (fun K hK => ?_)
  go_simp
  refine hK.out _ _ (fun _ => by first | exact HQ.out _ ((Upd.refl _ _).drew) | exact HQ.out _ (((Upd.refl _ _).alloc _).drew) | exact HQ.out _ ((((Upd.refl _ _).alloc _).drew).trans hu3 (fun _ _ h => h))) (fun hHeld => ?_)
  replace hHeld := hHeld (by decide)
  clear hK K
  (try simp only [Act.put, List.setIfInBounds_toArray, List.set_cons_zero, List.set_cons_succ])
  refine oT 11 (fun K hK => ?_)
  go_simp
  (go_at_call 71; with_reducible refine (HT.out _ ((HB.out.alloc _).drew) _ _ _ (HBK.out _ _)).mono ?_; rintro e w3 ⟨⟨B3, rfl, hrow3⟩, hu3⟩)
  refine hK.out _ _ (fun _ => by first | exact HQ.out _ ((Upd.refl _ _).drew) | exact HQ.out _ (((Upd.refl _ _).alloc _).drew) | exact HQ.out _ ((((Upd.refl _ _).alloc _).drew).trans hu3 (fun _ _ h => h))) (fun hHeld => ?_)
  replace hHeld := hHeld (by decide)
  clear hK K
  (try simp only [Act.put, List.setIfInBounds_toArray, List.set_cons_zero, List.set_cons_succ])
  refine oT 12 (fun K hK => ?_)
  go_simp
  refine hK.out _ _ (fun h => absurd rfl h) (fun hHeld => ?_)
  clear hK K
  (try simp only [Act.put, List.setIfInBounds_toArray, List.set_cons_zero, List.set_cons_succ])
  refine wpAnyT_done (by kernel_rfl) ?_ _
  go_wp2
  all_goals go_ret
  all_goals exact Fresh.of ((HB.out.alloc _).drew) rfl (by first | (simp; done) | (simp; omega)) hrow3 hu3
theorem tokens5 {w : World} {F0 F1 F2 F3 F4 : Nat → Prop} {x0 x1 x2 x3 x4 : List Tok} (hb : x0.length + x1.length + x2.length + x3.length + x4.length ≤ 1048576) (W : World) (hu : Pure w W) {v0 v1 v2 v3 v4 : Value} {blk : Nat} {e : TypeId} {fr : Nat × Nat} (hblk : W.heap[blk]? = some (.cells #[v0, v1, v2, v3, v4] e fr)) (h0 : TokS w F0 v0 x0) (h1 : TokS w F1 v1 x1) (h2 : TokS w F2 v2 x2) (h3 : TokS w F3 v3 x3) (h4 : TokS w F4 v4 x4) :
    Calls Tryz.prog 71 #[.slice (some ⟨blk, 0, none⟩) 5 5] W fun r w' => (∃ B, r = .returned (.slice (some B) (x0 ++ (x1 ++ (x2 ++ (x3 ++ x4)))).length (x0 ++ (x1 ++ (x2 ++ (x3 ++ x4)))).length) ∧ tokR.row w' (fun k => W.heap.size ≤ k) (some B) (x0 ++ (x1 ++ (x2 ++ (x3 ++ x4))))) ∧ Pure W w' := by
  have hr : toksR.row W (fun _ => True) (some ⟨blk, 0, none⟩) [x0, x1, x2, x3, x4] := toks_box (vs := [v0, v1, v2, v3, v4]) hblk trivial rfl (fun j v x hv hx => by
    match j, hv, hx with
    | 0, hv, hx => simp at hv hx; subst hv hx; exact (h0.pure hu).fp
    | 1, hv, hx => simp at hv hx; subst hv hx; exact (h1.pure hu).fp
    | 2, hv, hx => simp at hv hx; subst hv hx; exact (h2.pure hu).fp
    | 3, hv, hx => simp at hv hx; subst hv hx; exact (h3.pure hu).fp
    | 4, hv, hx => simp at hv hx; subst hv hx; exact (h4.pure hu).fp
    | j + 5, hv, hx => simp at hv)
  have h := tokens_calls (c := 5) hr (Nat.le_refl _) (by simp) (by simp [sumL]; omega)
  have e : ([x0, x1, x2, x3, x4] : List (List Tok)).flatten = x0 ++ (x1 ++ (x2 ++ (x3 ++ x4))) := by simp
  rw [e] at h
  exact h
set_option maxRecDepth 100000 in
set_option maxHeartbeats 4000000 in
theorem do_arnd_some {w : World} {F G : Nat → Prop} {b o b2 o2 : Nat} {c cb : Nat} {l sl : List Tok} {p q g h n : Nat} (hr : tokR.row w F (some ⟨b, o, none⟩) l) (hlc : l.length ≤ c) (hs : tokR.row w G (some ⟨b2, o2, none⟩) sl) (hsc : sl.length ≤ cb) (hb : l.length + sl.length ≤ 100000) (hn : n ≤ sl.length) (hp : p ≤ g) (hg : g < h) (hh : h ≤ q) (hq : q ≤ l.length) :
    Calls Tryz.prog 43 #[.slice (some ⟨b, o, none⟩) l.length c, (arnd p q g h (n : Nat) sl).val (some ⟨b2, o2, none⟩) cb] w (Fresh w (l.take p ++ (sl.take n ++ ((l.take h).drop g ++ (sl.drop n ++ l.drop q))))) := by
  have hbox := Upd.alloc1 (fun _ => False) w (.cells #[.int .i64 1, .int .i64 (p : Nat), .int .i64 (q : Nat), .int .i64 (g : Nat), .int .i64 (h : Nat), .int .i64 (n : Nat), .slice (some ⟨b2, o2, none⟩) sl.length cb, .int .i64 0] 27)
  have hblk := heap_alloc_new w (.cells #[.int .i64 1, .int .i64 (p : Nat), .int .i64 (q : Nat), .int .i64 (g : Nat), .int .i64 (h : Nat), .int .i64 (n : Nat), .slice (some ⟨b2, o2, none⟩) sl.length cb, .int .i64 0] 27)
  have h1 := TokS.take (m := p) hr (by omega) hlc rfl
  have h2 := TokS.take (m := n) hs (by omega) hsc rfl
  have h3 := TokS.mid (g := g) (h := h) (m := h - g) (c' := c - g) hr (by omega) hlc rfl rfl
  have h4 := TokS.cut (n := n) (m := sl.length - n) (c' := cb - n) hs (by omega) hsc rfl rfl
  have h5 := TokS.cut (n := q) (m := l.length - q) (c' := c - q) hr hq hlc rfl rfl
  have HT := As.mk (fun (W : World) (hu : Pure w W) (blk : Nat) (e : TypeId) (fr : Nat × Nat) hblk => tokens5 (x0 := l.take p) (x1 := sl.take n) (x2 := (l.take h).drop g) (x3 := sl.drop n) (x4 := l.drop q) (by simp only [List.length_take, List.length_drop, List.length_nil]; omega) W hu (blk := blk) (e := e) (fr := fr) hblk h1 h2 h3 h4 h5)
  have HB := As.mk hbox
  have HBK := As.mk (fun (cs : Array Value) (T : TypeId) => (by
    have h := heap_alloc_new (w.alloc (.cells #[.int .i64 1, .int .i64 (p : Nat), .int .i64 (q : Nat), .int .i64 (g : Nat), .int .i64 (h : Nat), .int .i64 (n : Nat), .slice (some ⟨b2, o2, none⟩) sl.length cb, .int .i64 0] 27)) (.cells cs T)
    rw [World.size_alloc] at h
    exact h : (((w.alloc (.cells #[.int .i64 1, .int .i64 (p : Nat), .int .i64 (q : Nat), .int .i64 (g : Nat), .int .i64 (h : Nat), .int .i64 (n : Nat), .slice (some ⟨b2, o2, none⟩) sl.length cb, .int .i64 0] 27)).alloc (.cells cs T)).drew).heap[w.heap.size + 1]? = some (.cells cs T (0, 0))))
  have q0 : ∀ v, Pure (w.alloc (.cells #[.int .i64 1, .int .i64 (p : Nat), .int .i64 (q : Nat), .int .i64 (g : Nat), .int .i64 (h : Nat), .int .i64 (n : Nat), .slice (some ⟨b2, o2, none⟩) sl.length cb, .int .i64 0] 27)) v → (fun v => v.cell? ⟨w.heap.size, 0, none⟩ = some (.int .i64 1) ∧ v.cell? ⟨w.heap.size, 1, none⟩ = some (.int .i64 (p : Nat)) ∧ v.cell? ⟨w.heap.size, 2, none⟩ = some (.int .i64 (q : Nat)) ∧ v.cell? ⟨w.heap.size, 3, none⟩ = some (.int .i64 (g : Nat)) ∧ v.cell? ⟨w.heap.size, 4, none⟩ = some (.int .i64 (h : Nat)) ∧ v.cell? ⟨w.heap.size, 5, none⟩ = some (.int .i64 (n : Nat)) ∧ v.cell? ⟨w.heap.size, 6, none⟩ = some (.slice (some ⟨b2, o2, none⟩) sl.length cb)) v := fun v hu => by
    have := (hu.block w.heap.size (by simp) (fun h => h)).trans hblk
    refine ⟨?_, ?_, ?_, ?_, ?_, ?_, ?_⟩ <;> (unfold World.cell?; simp only [this]; rfl)
  have HQ := As.mk q0
  have i1 : (0 : Int) ≤ ((p : Nat) : Int) := by omega
  have i2 : ((p : Nat) : Int) ≤ ((c : Nat) : Int) := by omega
  have i3 : (0 : Int) ≤ ((q : Nat) : Int) := by omega
  have i4 : ((q : Nat) : Int) ≤ ((l.length : Nat) : Int) := by omega
  have i5 : ((q : Nat) : Int) ≤ ((c : Nat) : Int) := by omega
  have i6 : ((l.length : Nat) : Int) ≤ ((c : Nat) : Int) := by omega
  have i7 : (0 : Int) ≤ ((g : Nat) : Int) := by omega
  have i8 : ((g : Nat) : Int) ≤ ((h : Nat) : Int) := by omega
  have i9 : ((h : Nat) : Int) ≤ ((c : Nat) : Int) := by omega
  have j1 : (0 : Int) ≤ ((h : Nat) : Int) := by omega
  have j2 : ¬ c = g := by omega
  have k1 : (0 : Int) ≤ ((n : Nat) : Int) := by omega
  have k2 : ((n : Nat) : Int) ≤ ((cb : Nat) : Int) := by omega
  have k3 : ((n : Nat) : Int) ≤ ((sl.length : Nat) : Int) := by omega
  have k4 : ((sl.length : Nat) : Int) ≤ ((cb : Nat) : Int) := by omega
  clear hr h1 h2 h3 h4 h5 hbox hblk q0 hs
  unfold StepD.val arnd
  go_enter Tryz.func43, Tryz.ntmps43
  go_wp2
  refine wp_region_T (P := Tryz.prog) (fun v => v.cell? ⟨w.heap.size, 0, none⟩ = some (.int .i64 1) ∧ v.cell? ⟨w.heap.size, 1, none⟩ = some (.int .i64 (p : Nat)) ∧ v.cell? ⟨w.heap.size, 2, none⟩ = some (.int .i64 (q : Nat)) ∧ v.cell? ⟨w.heap.size, 3, none⟩ = some (.int .i64 (g : Nat)) ∧ v.cell? ⟨w.heap.size, 4, none⟩ = some (.int .i64 (h : Nat)) ∧ v.cell? ⟨w.heap.size, 5, none⟩ = some (.int .i64 (n : Nat)) ∧ v.cell? ⟨w.heap.size, 6, none⟩ = some (.slice (some ⟨b2, o2, none⟩) sl.length cb)) 26 (by kernel_rfl) ?_ (fun hHeld => ?_)
  · first | exact HQ.out _ ((Upd.refl _ _).drew) | exact HQ.out _ (((Upd.refl _ _).alloc _).drew) | exact HQ.out _ ((((Upd.refl _ _).alloc _).drew).trans hu3 (fun _ _ h => h))
  refine zT 0 ?_
  refine zT 1 ?_
  (try simp only [Act.put, List.setIfInBounds_toArray, List.set_cons_zero, List.set_cons_succ])
  refine zT 2 ?_
  refine zT 3 ?_
  refine zT 4 ?_
  refine zT 5 ?_
  (try simp only [Act.put, List.setIfInBounds_toArray, List.set_cons_zero, List.set_cons_succ])
  refine zT 6 ?_
  refine zT 7 ?_
  refine zT 8 ?_
  refine zT 9 ?_
  (try simp only [Act.put, List.setIfInBounds_toArray, List.set_cons_zero, List.set_cons_succ])
  refine zT 10 ?_
  refine zT 11 ?_
  refine zT 12 ?_
  refine zT 13 ?_
  (try simp only [Act.put, List.setIfInBounds_toArray, List.set_cons_zero, List.set_cons_succ])
  refine zT 14 ?_
  refine zT 15 ?_
  refine zT 16 ?_
  refine zT 17 ?_
  (try simp only [Act.put, List.setIfInBounds_toArray, List.set_cons_zero, List.set_cons_succ])
  refine zT 18 ?_
  refine zT 19 ?_
  refine zT 20 ?_
  refine zT 21 ?_
  (try simp only [Act.put, List.setIfInBounds_toArray, List.set_cons_zero, List.set_cons_succ])
  refine zT 22 ?_
  refine zT 23 ?_
  refine oT 24 (fun K hK => ?_)
  go_simp
  refine hK.out _ _ (fun _ => by first | exact HQ.out _ ((Upd.refl _ _).drew) | exact HQ.out _ (((Upd.refl _ _).alloc _).drew) | exact HQ.out _ ((((Upd.refl _ _).alloc _).drew).trans hu3 (fun _ _ h => h))) (fun hHeld => ?_)
  replace hHeld := hHeld (by decide)
  clear hK K
  (try simp only [Act.put, List.setIfInBounds_toArray, List.set_cons_zero, List.set_cons_succ])
  refine oT 25 (fun K hK => ?_)
  go_simp
  (go_at_call 71; with_reducible refine (HT.out _ ((HB.out.alloc _).drew) _ _ _ (HBK.out _ _)).mono ?_; rintro e w3 ⟨⟨B3, rfl, hrow3⟩, hu3⟩)
  refine hK.out _ _ (fun _ => by first | exact HQ.out _ ((Upd.refl _ _).drew) | exact HQ.out _ (((Upd.refl _ _).alloc _).drew) | exact HQ.out _ ((((Upd.refl _ _).alloc _).drew).trans hu3 (fun _ _ h => h))) (fun hHeld => ?_)
  replace hHeld := hHeld (by decide)
  clear hK K
  (try simp only [Act.put, List.setIfInBounds_toArray, List.set_cons_zero, List.set_cons_succ])
  refine oT 26 (fun K hK => ?_)
  go_simp
  refine hK.out _ _ (fun h => absurd rfl h) (fun hHeld => ?_)
  clear hK K
  (try simp only [Act.put, List.setIfInBounds_toArray, List.set_cons_zero, List.set_cons_succ])
  refine wpAnyT_done (by kernel_rfl) ?_ _
  go_wp2
  all_goals go_ret
  all_goals exact Fresh.of ((HB.out.alloc _).drew) rfl (by first | (simp; done) | (simp; omega)) hrow3 hu3
set_option maxRecDepth 100000 in
set_option maxHeartbeats 4000000 in
theorem do_arnd_none {w : World} {F : Nat → Prop} {b o : Nat} {c : Nat} {l : List Tok} {p q g h : Nat} (hr : tokR.row w F (some ⟨b, o, none⟩) l) (hlc : l.length ≤ c) (hb : l.length ≤ 100000) (hp : p ≤ g) (hg : g < h) (hh : h ≤ q) (hq : q ≤ l.length) :
    Calls Tryz.prog 43 #[.slice (some ⟨b, o, none⟩) l.length c, (arnd p q g h 0 []).val none 0] w (Fresh w (l.take p ++ ((l.take h).drop g ++ l.drop q))) := by
  have hbox := Upd.alloc1 (fun _ => False) w (.cells #[.int .i64 1, .int .i64 (p : Nat), .int .i64 (q : Nat), .int .i64 (g : Nat), .int .i64 (h : Nat), .int .i64 0, .slice none 0 0, .int .i64 0] 27)
  have hblk := heap_alloc_new w (.cells #[.int .i64 1, .int .i64 (p : Nat), .int .i64 (q : Nat), .int .i64 (g : Nat), .int .i64 (h : Nat), .int .i64 0, .slice none 0 0, .int .i64 0] 27)
  have h1 := TokS.take (m := p) hr (by omega) hlc rfl
  have h2 := (⟨none, 0, rfl, Nat.le_refl _, .inl rfl⟩ : TokS w (fun _ => True) (.slice none 0 0) ([] : List Tok))
  have h3 := TokS.mid (g := g) (h := h) (m := h - g) (c' := c - g) hr (by omega) hlc rfl rfl
  have h4 := h2
  have h5 := TokS.cut (n := q) (m := l.length - q) (c' := c - q) hr hq hlc rfl rfl
  have HT := As.mk (fun (W : World) (hu : Pure w W) (blk : Nat) (e : TypeId) (fr : Nat × Nat) hblk => tokens5 (x0 := l.take p) (x1 := []) (x2 := (l.take h).drop g) (x3 := []) (x4 := l.drop q) (by simp only [List.length_take, List.length_drop, List.length_nil]; omega) W hu (blk := blk) (e := e) (fr := fr) hblk h1 h2 h3 h4 h5)
  simp only [List.nil_append] at HT
  have HB := As.mk hbox
  have HBK := As.mk (fun (cs : Array Value) (T : TypeId) => (by
    have h := heap_alloc_new (w.alloc (.cells #[.int .i64 1, .int .i64 (p : Nat), .int .i64 (q : Nat), .int .i64 (g : Nat), .int .i64 (h : Nat), .int .i64 0, .slice none 0 0, .int .i64 0] 27)) (.cells cs T)
    rw [World.size_alloc] at h
    exact h : (((w.alloc (.cells #[.int .i64 1, .int .i64 (p : Nat), .int .i64 (q : Nat), .int .i64 (g : Nat), .int .i64 (h : Nat), .int .i64 0, .slice none 0 0, .int .i64 0] 27)).alloc (.cells cs T)).drew).heap[w.heap.size + 1]? = some (.cells cs T (0, 0))))
  have q0 : ∀ v, Pure (w.alloc (.cells #[.int .i64 1, .int .i64 (p : Nat), .int .i64 (q : Nat), .int .i64 (g : Nat), .int .i64 (h : Nat), .int .i64 0, .slice none 0 0, .int .i64 0] 27)) v → (fun v => v.cell? ⟨w.heap.size, 0, none⟩ = some (.int .i64 1) ∧ v.cell? ⟨w.heap.size, 1, none⟩ = some (.int .i64 (p : Nat)) ∧ v.cell? ⟨w.heap.size, 2, none⟩ = some (.int .i64 (q : Nat)) ∧ v.cell? ⟨w.heap.size, 3, none⟩ = some (.int .i64 (g : Nat)) ∧ v.cell? ⟨w.heap.size, 4, none⟩ = some (.int .i64 (h : Nat)) ∧ v.cell? ⟨w.heap.size, 5, none⟩ = some (.int .i64 0) ∧ v.cell? ⟨w.heap.size, 6, none⟩ = some (.slice none 0 0)) v := fun v hu => by
    have := (hu.block w.heap.size (by simp) (fun h => h)).trans hblk
    refine ⟨?_, ?_, ?_, ?_, ?_, ?_, ?_⟩ <;> (unfold World.cell?; simp only [this]; rfl)
  have HQ := As.mk q0
  have i1 : (0 : Int) ≤ ((p : Nat) : Int) := by omega
  have i2 : ((p : Nat) : Int) ≤ ((c : Nat) : Int) := by omega
  have i3 : (0 : Int) ≤ ((q : Nat) : Int) := by omega
  have i4 : ((q : Nat) : Int) ≤ ((l.length : Nat) : Int) := by omega
  have i5 : ((q : Nat) : Int) ≤ ((c : Nat) : Int) := by omega
  have i6 : ((l.length : Nat) : Int) ≤ ((c : Nat) : Int) := by omega
  have i7 : (0 : Int) ≤ ((g : Nat) : Int) := by omega
  have i8 : ((g : Nat) : Int) ≤ ((h : Nat) : Int) := by omega
  have i9 : ((h : Nat) : Int) ≤ ((c : Nat) : Int) := by omega
  have j1 : (0 : Int) ≤ ((h : Nat) : Int) := by omega
  have j2 : ¬ c = g := by omega
  clear hr h1 h2 h3 h4 h5 hbox hblk q0
  unfold StepD.val arnd
  go_enter Tryz.func43, Tryz.ntmps43
  go_wp2
  refine wp_region_T (P := Tryz.prog) (fun v => v.cell? ⟨w.heap.size, 0, none⟩ = some (.int .i64 1) ∧ v.cell? ⟨w.heap.size, 1, none⟩ = some (.int .i64 (p : Nat)) ∧ v.cell? ⟨w.heap.size, 2, none⟩ = some (.int .i64 (q : Nat)) ∧ v.cell? ⟨w.heap.size, 3, none⟩ = some (.int .i64 (g : Nat)) ∧ v.cell? ⟨w.heap.size, 4, none⟩ = some (.int .i64 (h : Nat)) ∧ v.cell? ⟨w.heap.size, 5, none⟩ = some (.int .i64 0) ∧ v.cell? ⟨w.heap.size, 6, none⟩ = some (.slice none 0 0)) 26 (by kernel_rfl) ?_ (fun hHeld => ?_)
  · first | exact HQ.out _ ((Upd.refl _ _).drew) | exact HQ.out _ (((Upd.refl _ _).alloc _).drew) | exact HQ.out _ ((((Upd.refl _ _).alloc _).drew).trans hu3 (fun _ _ h => h))
  refine zT 0 ?_
  refine zT 1 ?_
  refine zT 2 ?_
  (try simp only [Act.put, List.setIfInBounds_toArray, List.set_cons_zero, List.set_cons_succ])
  refine zT 3 ?_
  refine zT 4 ?_
  refine zT 5 ?_
  refine zT 6 ?_
  (try simp only [Act.put, List.setIfInBounds_toArray, List.set_cons_zero, List.set_cons_succ])
  refine zT 7 ?_
  refine zT 8 ?_
  refine zT 9 ?_
  refine zT 10 ?_
  (try simp only [Act.put, List.setIfInBounds_toArray, List.set_cons_zero, List.set_cons_succ])
  refine zT 11 ?_
  refine zT 12 ?_
  refine zT 13 ?_
  refine zT 14 ?_
  (try simp only [Act.put, List.setIfInBounds_toArray, List.set_cons_zero, List.set_cons_succ])
  refine zT 15 ?_
  refine zT 16 ?_
  refine zT 17 ?_
  refine zT 18 ?_
  (try simp only [Act.put, List.setIfInBounds_toArray, List.set_cons_zero, List.set_cons_succ])
  refine zT 19 ?_
  refine zT 20 ?_
  refine zT 21 ?_
  refine zT 22 ?_
  (try simp only [Act.put, List.setIfInBounds_toArray, List.set_cons_zero, List.set_cons_succ])
  refine zT 23 ?_
  refine oT 24 (fun K hK => ?_)
  go_simp
  refine hK.out _ _ (fun _ => by first | exact HQ.out _ ((Upd.refl _ _).drew) | exact HQ.out _ (((Upd.refl _ _).alloc _).drew) | exact HQ.out _ ((((Upd.refl _ _).alloc _).drew).trans hu3 (fun _ _ h => h))) (fun hHeld => ?_)
  replace hHeld := hHeld (by decide)
  clear hK K
  (try simp only [Act.put, List.setIfInBounds_toArray, List.set_cons_zero, List.set_cons_succ])
  refine oT 25 (fun K hK => ?_)
  go_simp
  (go_at_call 71; with_reducible refine (HT.out _ ((HB.out.alloc _).drew) _ _ _ (HBK.out _ _)).mono ?_; rintro e w3 ⟨⟨B3, rfl, hrow3⟩, hu3⟩)
  refine hK.out _ _ (fun _ => by first | exact HQ.out _ ((Upd.refl _ _).drew) | exact HQ.out _ (((Upd.refl _ _).alloc _).drew) | exact HQ.out _ ((((Upd.refl _ _).alloc _).drew).trans hu3 (fun _ _ h => h))) (fun hHeld => ?_)
  replace hHeld := hHeld (by decide)
  clear hK K
  (try simp only [Act.put, List.setIfInBounds_toArray, List.set_cons_zero, List.set_cons_succ])
  refine oT 26 (fun K hK => ?_)
  go_simp
  refine hK.out _ _ (fun h => absurd rfl h) (fun hHeld => ?_)
  clear hK K
  (try simp only [Act.put, List.setIfInBounds_toArray, List.set_cons_zero, List.set_cons_succ])
  refine wpAnyT_done (by kernel_rfl) ?_ _
  go_wp2
  all_goals go_ret
  all_goals exact Fresh.of ((HB.out.alloc _).drew) rfl (by first | (simp; done) | (simp; omega)) hrow3 hu3
end Go.Proofs.YteeindicpbcjaaaGreatDoor
