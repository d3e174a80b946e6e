/- edit: the desk's places, a step that is told. edit.desk.replace, edit.Delete, edit.Insert. (printed by gen/gen_edb.py) step.Apply, edit.Insert, edit.Delete at a document. emenderlaw12.twin of nothing told; emenderlaw12.awake. -/
import Derived.Test.YtfapglhdakhbeaaGreatDoorRemap
import Derived.Test.YtfapglhdakhbeaaGreatDoorHeldZ
import Derived.Test.YtfapglhdakhbeaaGreatDoorHouse
import Derived.Test.YtfapglhdakhbeaaGreatDoorAlikeE
import Derived.Test.YtfapglhdakhbeaaGreatDoorOpenKit
namespace Go.Proofs.YtfapglhdakhbeaaGreatDoor
open Go.RowKit
set_option linter.unusedVariables false
set_option linter.unusedSimpArgs false

theorem cells2 {w : World} {k : Nat} {x0 x1 : Value} {t : TypeId} (h : w.heap[k]? = some (.cells #[x0, x1] t (0, 0))) : w.cell? ⟨k, 0, none⟩ = some x0 ∧ w.cell? ⟨k, 1, none⟩ = some x1 := by
  refine ⟨?_, ?_⟩ <;> simp [World.cell?, h]
theorem set8 {w : World} {rb : Nat} {x0 x1 x2 x3 x4 x5 x6 x7 : Value} {t : TypeId} {fr : Nat × Nat} (h : w.heap[rb]? = some (.cells #[x0, x1, x2, x3, x4, x5, x6, x7] t fr)) (y0 y1 y2 y3 y4 y5 y6 y7 : Value) : ((((((((w.setCell ⟨rb, 0, none⟩ y0).setCell ⟨rb, 1, none⟩ y1).setCell ⟨rb, 2, none⟩ y2).setCell ⟨rb, 3, none⟩ y3).setCell ⟨rb, 4, none⟩ y4).setCell ⟨rb, 5, none⟩ y5).setCell ⟨rb, 6, none⟩ y6).setCell ⟨rb, 7, none⟩ y7).heap[rb]? = some (.cells #[y0, y1, y2, y3, y4, y5, y6, y7] t fr) := by simp [World.setCell, Array.getElem?_modify, h]
theorem set4 {w : World} {rb : Nat} {x0 x1 x2 x3 : Value} {t : TypeId} {fr : Nat × Nat} (h : w.heap[rb]? = some (.cells #[x0, x1, x2, x3] t fr)) (y0 y1 y2 y3 : Value) : ((((w.setCell ⟨rb, 0, none⟩ y0).setCell ⟨rb, 1, none⟩ y1).setCell ⟨rb, 2, none⟩ y2).setCell ⟨rb, 3, none⟩ y3).heap[rb]? = some (.cells #[y0, y1, y2, y3] t fr) := by simp [World.setCell, Array.getElem?_modify, h]
theorem set8_pure {w0 w : World} {rb : Nat} (hp : Pure w0 w) (hb : w0.heap.size ≤ rb) (y0 y1 y2 y3 y4 y5 y6 y7 : Value) : Pure w0 ((((((((w.setCell ⟨rb, 0, none⟩ y0).setCell ⟨rb, 1, none⟩ y1).setCell ⟨rb, 2, none⟩ y2).setCell ⟨rb, 3, none⟩ y3).setCell ⟨rb, 4, none⟩ y4).setCell ⟨rb, 5, none⟩ y5).setCell ⟨rb, 6, none⟩ y6).setCell ⟨rb, 7, none⟩ y7) :=
  hp |>.setCell (p := ⟨rb, 0, none⟩) (fun h => absurd h (by show ¬ rb < w0.heap.size; omega)) _ |>.setCell (p := ⟨rb, 1, none⟩) (fun h => absurd h (by show ¬ rb < w0.heap.size; omega)) _ |>.setCell (p := ⟨rb, 2, none⟩) (fun h => absurd h (by show ¬ rb < w0.heap.size; omega)) _ |>.setCell (p := ⟨rb, 3, none⟩) (fun h => absurd h (by show ¬ rb < w0.heap.size; omega)) _ |>.setCell (p := ⟨rb, 4, none⟩) (fun h => absurd h (by show ¬ rb < w0.heap.size; omega)) _ |>.setCell (p := ⟨rb, 5, none⟩) (fun h => absurd h (by show ¬ rb < w0.heap.size; omega)) _ |>.setCell (p := ⟨rb, 6, none⟩) (fun h => absurd h (by show ¬ rb < w0.heap.size; omega)) _ |>.setCell (p := ⟨rb, 7, none⟩) (fun h => absurd h (by show ¬ rb < w0.heap.size; omega)) _
/-- A step and an error are answered. -/
theorem step_end {fn : Func} {p q : Tmp} (hres : fn.results = #[.cell p 46, .tmp q]) (tmps : Array Value) {w : World} {rb : Nat} {y0 y1 y2 y3 y4 y5 y6 y7 : Value} {t : TypeId} {fr : Nat × Nat} (hp : tmps.getD p undef = .pointer (some ⟨rb, 0, none⟩)) (hg : w.heap[rb]? = some (.cells #[y0, y1, y2, y3, y4, y5, y6, y7] t fr)) :
    (results fn tmps).run Tryz.prog w = .ok (.tuple #[.agg #[y0, y1, y2, y3, y4, y5, y6, y7], tmps.getD q undef]) w := by
  have hp' : tmps[p]?.getD undef = .pointer (some ⟨rb, 0, none⟩) := by simpa using hp
  simp [results, hres, hp', asAddr, run_loadVar_row (P := Tryz.prog) _ rb t 46 _ fr _ hg Tryz.underlying46 rfl (by kernel_rfl)]
/-- A token is answered. -/
theorem tok_end {fn : Func} {p : Tmp} (hres : fn.results = #[.cell p 71]) (tmps : Array Value) {w : World} {rb : Nat} {y0 y1 y2 y3 : Value} {t : TypeId} {fr : Nat × Nat} (hp : tmps.getD p undef = .pointer (some ⟨rb, 0, none⟩)) (hg : w.heap[rb]? = some (.cells #[y0, y1, y2, y3] t fr)) :
    (results fn tmps).run Tryz.prog w = .ok (.agg #[y0, y1, y2, y3]) w := by
  have hp' : tmps[p]?.getD undef = .pointer (some ⟨rb, 0, none⟩) := by simpa using hp
  simp [results, hres, hp', asAddr, run_loadVar_row (P := Tryz.prog) _ rb t 71 _ fr _ hg Tryz.underlying71 rfl (by kernel_rfl)]
theorem one_up {w V : World} {X : Obj} (h : Pure (w.alloc X) V) : V.heap[w.heap.size]? = some X ∧ Pure w V :=
  ⟨(h.block _ (by simp) (fun h => h)).trans (heap_alloc_new w X), Upd.trans (Upd.alloc1 (fun _ => False) _ _) h (fun _ _ h => h)⟩
theorem two_up {w V : World} {X Y : Obj} (h : Pure ((w.alloc X).alloc Y) V) : V.heap[w.heap.size]? = some X ∧ V.heap[w.heap.size + 1]? = some Y ∧ Pure w V := by
  obtain ⟨h1, h2⟩ := one_up h
  obtain ⟨h3, h4⟩ := one_up h2
  exact ⟨h3, by simpa using h1, h4⟩
theorem three_up {w V : World} {X Y Z : Obj} (h : Pure (((w.alloc X).alloc Y).alloc Z) V) : V.heap[w.heap.size]? = some X ∧ V.heap[w.heap.size + 1]? = some Y ∧ V.heap[w.heap.size + 2]? = some Z ∧ Pure w V := by
  obtain ⟨h1, h2⟩ := one_up h
  obtain ⟨h3, h4, h5⟩ := two_up h2
  exact ⟨h3, h4, by simpa using h1, h5⟩
abbrev deskV (cb : Nat) (A : Option Addr) (n c : Nat) : Value := .agg #[.pointer (some ⟨cb, 0, none⟩), .slice A n c]
abbrev step0 : Value := .agg #[.int .i64 0, .int .i64 0, .int .i64 0, .int .i64 0, .int .i64 0, .int .i64 0, .slice none 0 0, .int .i64 0]
/-- A step that is told, or a refusal. -/
def ToldR (v : Value) (e : Int) (r : Ending) : Prop := (e = 0 ∧ r = .returned (.tuple #[v, .int .i64 0])) ∨ (e ≠ 0 ∧ r = .returned (.tuple #[step0, .int .i64 e]))
theorem ToldR.zero {v : Value} {r : Ending} (h : ToldR v 0 r) : r = .returned (.tuple #[v, .int .i64 0]) := by
  rcases h with ⟨_, h⟩ | ⟨h, _⟩
  · exact h
  · exact absurd rfl h
theorem ToldR.ne {v : Value} {e : Int} {r : Ending} (h : ToldR v e r) (he : e ≠ 0) : r = .returned (.tuple #[step0, .int .i64 e]) := by
  rcases h with ⟨h, _⟩ | ⟨_, h⟩
  · exact absurd h he
  · exact h
theorem DocR.ne {w : World} {x : List Tok} {e : Int} {r : Ending} {w' : World} (h : DocR w x e r w') (he : e ≠ 0) : r = .returned (.tuple #[.slice none 0 0, .int .i64 e]) ∧ Pure w w' := by
  obtain ⟨⟨h, _⟩ | ⟨_, h1⟩, hu⟩ := h
  · exact absurd h he
  · exact ⟨h1, hu⟩
def placesErr (l : List Tok) (f t : Int) : Int := if (houseCheck l).2 ≠ 0 then (houseCheck l).2 else if f < 0 ∨ t < f ∨ (l.length : Int) < t then 1 else 0
theorem places_zero {l : List Tok} {f t : Int} : placesErr l f t = 0 ↔ (houseCheck l).2 = 0 ∧ 0 ≤ f ∧ f ≤ t ∧ t ≤ l.length := by
  unfold placesErr
  constructor
  · intro h
    split at h
    · omega
    · split at h <;> omega
  · rintro ⟨h1, h2, h3, h4⟩
    rw [if_neg (by omega), if_neg (by omega)]
set_option maxRecDepth 100000 in
set_option maxHeartbeats 4000000 in
theorem refuse_calls {e : Int} (w : World) : Calls Tryz.prog 89 #[.int .i64 e] w (fun r w' => r = .returned (.tuple #[step0, .int .i64 e]) ∧ Pure w w') := by
  go_enter Tryz.func89, Tryz.ntmps89
  go_wp2
  exact bodyPost_ret (step_end rfl _ rfl (heap_alloc_new w _)) rfl ⟨rfl, (by repeat (first | exact Upd.refl _ _ | exact HU1.out | (refine Upd.alloc ?_ _) | (refine Upd.setCell ?_ (by intro h; simp at h; try omega) _) | (refine Upd.drew ?_) | (refine Upd.drewN ?_ _) | (refine Upd.trans ?_ HU1.out (fun _ _ h => h))))⟩
set_option maxRecDepth 100000 in
set_option maxHeartbeats 4000000 in
theorem shut_calls (w : World) : Calls Tryz.prog 98 #[] w (fun r w' => r = .returned shutT.val ∧ Pure w w') := by
  go_enter Tryz.func98, Tryz.ntmps98
  go_wp2
  exact bodyPost_ret (tok_end rfl _ rfl (heap_alloc_new w _)) rfl ⟨rfl, (by repeat (first | exact Upd.refl _ _ | exact HU1.out | (refine Upd.alloc ?_ _) | (refine Upd.setCell ?_ (by intro h; simp at h; try omega) _) | (refine Upd.drew ?_) | (refine Upd.drewN ?_ _) | (refine Upd.trans ?_ HU1.out (fun _ _ h => h))))⟩
set_option maxRecDepth 100000 in
set_option maxHeartbeats 4000000 in
theorem places_calls {w : World} {F : Nat → Prop} {cb : Nat} {A : Option Addr} {c : Nat} {l : List Tok} {f t : Int} (h : SchR w cb houseRules houseGroups) (hr : tokR.row w F A l) (hb : l.length ≤ 1048576 * 4) :
    Calls Tryz.prog 88 #[deskV cb A l.length c, .int .i64 f, .int .i64 t] w (fun r w' => r = .returned (.int .i64 (placesErr l f t)) ∧ Pure w w') := by
  have HC := As.mk (fun W (hu : Pure w W) => house_check (c := c) (h.pure hu) (Rp.row_pure hr hu) hb)
  have HE := As.mk (show placesErr l f t = if (houseCheck l).2 ≠ 0 then (houseCheck l).2 else if f < 0 ∨ t < f ∨ (l.length : Int) < t then 1 else 0 from rfl)
  clear h hr hb
  generalize placesErr l f t = pe at *
  generalize (houseCheck l).2 = e at *
  generalize (houseCheck l).1 = e1 at *
  by_cases h0 : e = 0
  · subst h0
    rw [if_neg (by omega)] at HE
    by_cases h1 : f < 0
    · rw [if_pos (.inl h1)] at HE
      go_enter Tryz.func88, Tryz.ntmps88
      go_wp2_with (go_at_call 17; refine (HC.out _ (Upd.alloc1 _ _ _)).mono ?_; rintro r w1 ⟨rfl, hu⟩; have hb1 := (hu.block w.heap.size (by simp) (fun h => h)).trans (heap_alloc_new w _); obtain ⟨q0, q1⟩ := cells2 hb1; have HU1 := As.mk (Upd.trans (Upd.alloc1 (fun _ => False) _ _) hu (fun _ _ h => h)); clear hu hb1)
      go_ret
      exact ⟨(by rw [HE.out]; rfl), HU1.out⟩
    · by_cases h2 : t < f
      · rw [if_pos (.inr (.inl h2))] at HE
        go_enter Tryz.func88, Tryz.ntmps88
        go_wp2_with (go_at_call 17; refine (HC.out _ (Upd.alloc1 _ _ _)).mono ?_; rintro r w1 ⟨rfl, hu⟩; have hb1 := (hu.block w.heap.size (by simp) (fun h => h)).trans (heap_alloc_new w _); obtain ⟨q0, q1⟩ := cells2 hb1; have HU1 := As.mk (Upd.trans (Upd.alloc1 (fun _ => False) _ _) hu (fun _ _ h => h)); clear hu hb1)
        go_ret
        exact ⟨(by rw [HE.out]; rfl), HU1.out⟩
      · by_cases h3 : (l.length : Int) < t
        · rw [if_pos (.inr (.inr h3))] at HE
          go_enter Tryz.func88, Tryz.ntmps88
          go_wp2_with (go_at_call 17; refine (HC.out _ (Upd.alloc1 _ _ _)).mono ?_; rintro r w1 ⟨rfl, hu⟩; have hb1 := (hu.block w.heap.size (by simp) (fun h => h)).trans (heap_alloc_new w _); obtain ⟨q0, q1⟩ := cells2 hb1; have HU1 := As.mk (Upd.trans (Upd.alloc1 (fun _ => False) _ _) hu (fun _ _ h => h)); clear hu hb1)
          go_ret
          exact ⟨(by rw [HE.out]; rfl), HU1.out⟩
        · rw [if_neg (by omega)] at HE
          go_enter Tryz.func88, Tryz.ntmps88
          go_wp2_with (go_at_call 17; refine (HC.out _ (Upd.alloc1 _ _ _)).mono ?_; rintro r w1 ⟨rfl, hu⟩; have hb1 := (hu.block w.heap.size (by simp) (fun h => h)).trans (heap_alloc_new w _); obtain ⟨q0, q1⟩ := cells2 hb1; have HU1 := As.mk (Upd.trans (Upd.alloc1 (fun _ => False) _ _) hu (fun _ _ h => h)); clear hu hb1)
          go_ret
          exact ⟨(by rw [HE.out]; rfl), HU1.out⟩
  · have f0 : (e != 0) = true := by simpa using h0
    rw [if_pos h0] at HE
    clear h0
    go_enter Tryz.func88, Tryz.ntmps88
    go_wp2_with (go_at_call 17; refine (HC.out _ (Upd.alloc1 _ _ _)).mono ?_; rintro r w1 ⟨rfl, hu⟩; have HU1 := As.mk (Upd.trans (Upd.alloc1 (fun _ => False) _ _) hu (fun _ _ h => h)); clear hu)
    go_ret
    exact ⟨(by rw [HE.out]; rfl), HU1.out⟩
set_option maxRecDepth 100000 in
set_option maxHeartbeats 4000000 in
theorem tell_calls {w : World} {cb : Nat} {A B : Option Addr} {c cs n : Nat} {s : StepD} {x : List Tok} {e : Int} (hd : ∀ W, Pure w W → Calls Tryz.prog 101 #[.pointer (some ⟨cb, 0, none⟩), .slice A n c, s.val B cs] W (DocR W x e)) :
    Calls Tryz.prog 96 #[deskV cb A n c, s.val B cs] w (fun r w' => ToldR (s.val B cs) e r ∧ Pure w w') := by
  have HD := As.mk hd
  clear hd
  unfold StepD.val at *
  by_cases h0 : e = 0
  · subst h0
    go_enter Tryz.func96, Tryz.ntmps96
    go_wp2_with (go_at_call 101; refine (HD.out _ (((Upd.alloc1 (fun _ => False) _ _).alloc _).alloc _)).mono ?_; rintro r w1 hd; obtain ⟨⟨B1, rfl, hrow⟩, hu⟩ := DocR.zero hd; obtain ⟨_, hb1, hb2, hu2⟩ := three_up hu; obtain ⟨q0, q1, q2, q3, q4, q5, q6, q7⟩ := cells8 hb1; have HB1 := As.mk hb2; have HU1 := As.mk hu2; clear hd hu hb1 hb2 hu2 hrow; apply As.out)
    refine ⟨?_⟩
    have hbl : w.heap.size + 2 < w1.heap.size := (Array.getElem?_eq_some_iff.1 HB1.out).1
    have hcf : ∀ i, w1.frozen? ⟨w.heap.size + 2, i, none⟩ = false := fun i => by simp [World.frozen?, HB1.out]
    obtain ⟨k0, k1, k2, k3, k4, k5, k6, k7⟩ := cells8 HB1.out
    go_wp2
    exact bodyPost_ret (step_end (rb := w.heap.size + 1 + 1) rfl _ rfl (set8 (rb := w.heap.size + 1 + 1) HB1.out _ _ _ _ _ _ _ _)) rfl ⟨.inl ⟨rfl, rfl⟩, set8_pure HU1.out (by omega) _ _ _ _ _ _ _ _⟩
  · have HN := As.mk h0
    have f0 : (e != 0) = true := by simpa using h0
    clear h0
    go_enter Tryz.func96, Tryz.ntmps96
    go_wp2_with (go_at_call 101; refine (HD.out _ (((Upd.alloc1 (fun _ => False) _ _).alloc _).alloc _)).mono ?_; rintro r w1 hd; obtain ⟨rfl, hu⟩ := DocR.ne hd HN.out; obtain ⟨_, hb1, hb2, hu2⟩ := three_up hu; have HB1 := As.mk hb2; have HU1 := As.mk hu2; clear hd hu hb1 hb2 hu2; apply As.out)
    refine ⟨?_⟩
    have hbl : w.heap.size + 2 < w1.heap.size := (Array.getElem?_eq_some_iff.1 HB1.out).1
    have hcf : ∀ i, w1.frozen? ⟨w.heap.size + 2, i, none⟩ = false := fun i => by simp [World.frozen?, HB1.out]
    obtain ⟨k0, k1, k2, k3, k4, k5, k6, k7⟩ := cells8 HB1.out
    go_wp2
    exact bodyPost_ret (step_end (rb := w.heap.size + 1 + 1) rfl _ rfl (set8 (rb := w.heap.size + 1 + 1) HB1.out _ _ _ _ _ _ _ _)) rfl ⟨.inr ⟨HN.out, rfl⟩, set8_pure HU1.out (by omega) _ _ _ _ _ _ _ _⟩
end Go.Proofs.YtfapglhdakhbeaaGreatDoor
namespace Go.Proofs.YtfapglhdakhbeaaGreatDoor
open Go.RowKit
set_option linter.unusedVariables false
set_option linter.unusedSimpArgs false

/-- A step s and an error are answered. -/
def Told (s : StepD) (B : Option Addr) (c : Nat) (e : Int) (w : World) (r : Ending) (w' : World) : Prop := r = .returned (.tuple #[s.val B c, .int .i64 e]) ∧ Pure w w'
def toldS (s : StepD) (e : Int) : StepD := if e = 0 then s else repl 0 0 []
def toldB (B : Option Addr) (e : Int) : Option Addr := if e = 0 then B else none
def toldC (c : Nat) (e : Int) : Nat := if e = 0 then c else 0
theorem ToldR.told {s : StepD} {B : Option Addr} {c : Nat} {e : Int} {w w' : World} {r : Ending} (h : ToldR (s.val B c) e r ∧ Pure w w') : Told (toldS s e) (toldB B e) (toldC c e) e w r w' := by
  obtain ⟨⟨rfl, h⟩ | ⟨h0, h⟩, hu⟩ := h
  · exact ⟨h, hu⟩
  · refine ⟨?_, hu⟩
    unfold toldS toldB toldC
    rw [if_neg h0, if_neg h0, if_neg h0, h]
    rfl
theorem told_refused {s : StepD} {B : Option Addr} {c : Nat} {e : Int} (h0 : e ≠ 0) : (toldS s e).val (toldB B e) (toldC c e) = step0 := by
  unfold toldS toldB toldC
  rw [if_neg h0, if_neg h0, if_neg h0]
  rfl
set_option maxRecDepth 100000 in
set_option maxHeartbeats 4000000 in
theorem replace_calls {w : World} {cb : Nat} {A B B' : Option Addr} {c cs c' n : Nat} {f t e : Int} {sl : List Tok} {s' : StepD} (ht : ∀ W, Pure w W → Calls Tryz.prog 96 #[deskV cb A n c, (repl f t sl).val B cs] W (Told s' B' c' e W)) :
    Calls Tryz.prog 90 #[deskV cb A n c, .int .i64 f, .int .i64 t, .slice B sl.length cs] w (Told s' B' c' e w) := by
  have HT := As.mk ht
  clear ht
  unfold Told StepD.val repl at *
  go_enter Tryz.func90, Tryz.ntmps90
  go_wp2_with (go_at_call 96; refine (HT.out _ ((Upd.alloc1 (fun _ => False) _ _).alloc _)).mono ?_; rintro r w2 ⟨rfl, hu⟩; obtain ⟨_, hb2, hu2⟩ := two_up hu; have HB2 := As.mk hb2; have HU2 := As.mk hu2; clear hu hb2 hu2; apply As.out)
  refine ⟨?_⟩
  have hbl : (w.heap.size + 1) < w2.heap.size := (Array.getElem?_eq_some_iff.1 HB2.out).1
  have hcf : ∀ i, w2.frozen? ⟨(w.heap.size + 1), i, none⟩ = false := fun i => by simp [World.frozen?, HB2.out]
  obtain ⟨k0, k1, k2, k3, k4, k5, k6, k7⟩ := cells8 HB2.out
  go_wp2
  exact bodyPost_ret (step_end (rb := (w.heap.size + 1)) rfl _ rfl (set8 (rb := (w.heap.size + 1)) HB2.out _ _ _ _ _ _ _ _)) rfl ⟨rfl, set8_pure HU2.out (by omega) _ _ _ _ _ _ _ _⟩
def delErr (l : List Tok) (f t : Int) : Int := if placesErr l f t ≠ 0 then placesErr l f t else remapErr l (repl f t [])
set_option maxRecDepth 100000 in
set_option maxHeartbeats 4000000 in
theorem Delete_at {w : World} {cb : Nat} {A B' : Option Addr} {c c' n : Nat} {f t e pe : Int} {s' : StepD} (hp : ∀ W, Pure w W → Calls Tryz.prog 88 #[deskV cb A n c, .int .i64 f, .int .i64 t] W (fun r w' => r = .returned (.int .i64 pe) ∧ Pure W w'))
    (hr : pe = 0 → ∀ W, Pure w W → Calls Tryz.prog 90 #[deskV cb A n c, .int .i64 f, .int .i64 t, .slice none 0 0] W (Told s' B' c' e W)) (h0 : pe ≠ 0 → s'.val B' c' = step0 ∧ e = pe) :
    Calls Tryz.prog 33 #[.pointer (some ⟨cb, 0, none⟩), .slice A n c, .int .i64 f, .int .i64 t] w (Told s' B' c' e w) := by
  have HP := As.mk hp
  clear hp
  by_cases p0 : pe = 0
  · have HR := As.mk (hr p0)
    subst p0
    clear h0 hr
    unfold Told StepD.val at *
    go_enter Tryz.func33, Tryz.ntmps33
    go_wp2_with (first | (go_at_call 90; refine (HR.out w1 HU1.out).mono ?_; rintro r w2 ⟨rfl, hu⟩; have HB2 := As.mk ((hu.block w.heap.size (lt_of_block HB1.out) (fun h => h)).trans HB1.out); have HU2 := As.mk (HU1.out.trans hu (fun _ _ h => h)); clear hu; apply As.out) | (go_at_call 88; refine (HP.out _ ((Upd.alloc1 (fun _ => False) _ _).alloc _)).mono ?_; rintro r w1 ⟨rfl, hu⟩; obtain ⟨hb1, hb2, hu2⟩ := two_up hu; obtain ⟨q0, q1⟩ := cells2 hb2; have HB1 := As.mk hb1; have HQ1 := As.mk hb2; have HU1 := As.mk hu2; clear hu hb1 hb2 hu2))
    refine ⟨?_⟩
    have hbl : w.heap.size < w2.heap.size := (Array.getElem?_eq_some_iff.1 HB2.out).1
    have hcf : ∀ i, w2.frozen? ⟨w.heap.size, i, none⟩ = false := fun i => by simp [World.frozen?, HB2.out]
    obtain ⟨k0, k1, k2, k3, k4, k5, k6, k7⟩ := cells8 HB2.out
    go_wp2
    exact bodyPost_ret (step_end (rb := w.heap.size) rfl _ rfl (set8 (rb := w.heap.size) HB2.out _ _ _ _ _ _ _ _)) rfl ⟨rfl, set8_pure HU2.out (Nat.le_refl _) _ _ _ _ _ _ _ _⟩
  · obtain ⟨h1, rfl⟩ := h0 p0
    unfold Told
    rw [h1]
    have f0 : (e != 0) = true := by simpa using p0
    clear hr h1 h0 p0
    go_enter Tryz.func33, Tryz.ntmps33
    go_wp2_with (first | (go_at_call 89; refine (refuse_calls _).mono ?_; rintro r w2 ⟨rfl, hu⟩; have HB2 := As.mk ((hu.block w.heap.size (lt_of_block HB1.out) (fun h => h)).trans HB1.out); have HU2 := As.mk (HU1.out.trans hu (fun _ _ h => h)); clear hu; apply As.out) | (go_at_call 88; refine (HP.out _ ((Upd.alloc1 (fun _ => False) _ _).alloc _)).mono ?_; rintro r w1 ⟨rfl, hu⟩; obtain ⟨hb1, hb2, hu2⟩ := two_up hu; obtain ⟨q0, q1⟩ := cells2 hb2; have HB1 := As.mk hb1; have HQ1 := As.mk hb2; have HU1 := As.mk hu2; clear hu hb1 hb2 hu2))
    refine ⟨?_⟩
    have hbl : w.heap.size < w2.heap.size := (Array.getElem?_eq_some_iff.1 HB2.out).1
    have hcf : ∀ i, w2.frozen? ⟨w.heap.size, i, none⟩ = false := fun i => by simp [World.frozen?, HB2.out]
    obtain ⟨k0, k1, k2, k3, k4, k5, k6, k7⟩ := cells8 HB2.out
    go_wp2
    exact bodyPost_ret (step_end (rb := w.heap.size) rfl _ rfl (set8 (rb := w.heap.size) HB2.out _ _ _ _ _ _ _ _)) rfl ⟨rfl, set8_pure HU2.out (Nat.le_refl _) _ _ _ _ _ _ _ _⟩
/-- A token that is no text. -/
def plainT (l : List Tok) : Prop := ∀ x ∈ l, x.k = 0
instance (l : List Tok) : Decidable (plainT l) := by unfold plainT; infer_instance
theorem up1 {b : Nat} {w w' : World} (h : Pure w w') : Upd (fun k => k = b) w w' := (Upd.refl _ _).trans h (fun _ _ h => h.elim)
theorem set8_upd {w0 w : World} {rb : Nat} (hp : Upd (fun k => k = rb) w0 w) (y0 y1 y2 y3 y4 y5 y6 y7 : Value) : Upd (fun k => k = rb) w0 ((((((((w.setCell ⟨rb, 0, none⟩ y0).setCell ⟨rb, 1, none⟩ y1).setCell ⟨rb, 2, none⟩ y2).setCell ⟨rb, 3, none⟩ y3).setCell ⟨rb, 4, none⟩ y4).setCell ⟨rb, 5, none⟩ y5).setCell ⟨rb, 6, none⟩ y6).setCell ⟨rb, 7, none⟩ y7) :=
  hp |>.setCell (p := ⟨rb, 0, none⟩) (fun _ => rfl) _ |>.setCell (p := ⟨rb, 1, none⟩) (fun _ => rfl) _ |>.setCell (p := ⟨rb, 2, none⟩) (fun _ => rfl) _ |>.setCell (p := ⟨rb, 3, none⟩) (fun _ => rfl) _ |>.setCell (p := ⟨rb, 4, none⟩) (fun _ => rfl) _ |>.setCell (p := ⟨rb, 5, none⟩) (fun _ => rfl) _ |>.setCell (p := ⟨rb, 6, none⟩) (fun _ => rfl) _ |>.setCell (p := ⟨rb, 7, none⟩) (fun _ => rfl) _
theorem told_row {W : World} {G : Nat → Prop} {A : Option Addr} {c : Nat} {e : Int} {sl text : List Tok} (h2 : e = 0 → sl = text) (h3 : e ≠ 0 → sl = []) (hr : tokR.row W G A text) (hc : text.length ≤ c) : tokR.row W G (toldB A e) sl ∧ sl.length ≤ toldC c e := by
  unfold toldB toldC
  by_cases h0 : e = 0
  · rw [if_pos h0, if_pos h0, h2 h0]
    exact ⟨hr, hc⟩
  · rw [if_neg h0, if_neg h0, h3 h0]
    exact ⟨.inl rfl, Nat.le_refl _⟩
set_option maxRecDepth 100000 in
set_option maxHeartbeats 4000000 in
theorem Insert_at {w : World} {F : Nat → Prop} {cb : Nat} {A T : Option Addr} {c ct n : Nat} {p e pe : Int} {text : List Tok} {s' : StepD} (hx : tokR.row w F T text) (hb : text.length ≤ 1048576 * 4)
    (hp : ∀ W, Pure w W → Calls Tryz.prog 88 #[deskV cb A n c, .int .i64 p, .int .i64 p] W (fun r w' => r = .returned (.int .i64 pe) ∧ Pure W w'))
    (hr : pe = 0 → plainT text → ∀ V A1 c1, Pure w V → tokR.row V (fun _ => True) A1 text → text.length ≤ c1 → Calls Tryz.prog 90 #[deskV cb A n c, .int .i64 p, .int .i64 p, .slice A1 text.length c1] V (Told s' (toldB A1 e) (toldC c1 e) e V))
    (h0 : pe ≠ 0 → s' = repl 0 0 [] ∧ e = pe) (h1 : pe = 0 → ¬ plainT text → s' = repl 0 0 [] ∧ e = 1) (h2 : e = 0 → s'.sl = text) (h3 : e ≠ 0 → s'.sl = []) :
    Calls Tryz.prog 31 #[.pointer (some ⟨cb, 0, none⟩), .slice A n c, .int .i64 p, .slice T text.length ct] w (fun r w' => ∃ B' c', Told s' B' c' e w r w' ∧ (tokR.row w' (fun k => w.heap.size ≤ k) B' s'.sl ∧ s'.sl.length ≤ c') ∧ (e ≠ 0 → B' = none ∧ c' = 0)) := by
  have HP := As.mk hp
  have HX := As.mk hx
  have HT := As.mk (And.intro h2 h3)
  clear hp hx h2 h3
  by_cases p0 : pe = 0
  · have HR := As.mk (hr p0)
    subst p0
    clear hr
    have H1 := As.mk (h1 rfl)
    clear h0 h1
    unfold Told StepD.val at *
    go_enter Tryz.func31, Tryz.ntmps31
    go_wp2_with (go_at_call 88; refine (HP.out _ ((Upd.alloc1 (fun _ => False) _ _).alloc _)).mono ?_; rintro r w1 ⟨rfl, hu⟩; obtain ⟨hb1, hb2, hu2⟩ := two_up hu; obtain ⟨q0, q1⟩ := cells2 hb2; have HB1 := As.mk hb1; have HQ1 := As.mk hb2; have HU1 := As.mk hu2; clear hu hb1 hb2 hu2)
    go_loopg [29] text.length (fun g i wr => ∃ k : Nat, k + g = text.length ∧ i = .int .i64 k ∧ As (∀ x ∈ text.take k, x.k = 0) ∧ As (Pure w1 wr))
    case atStart => exact ⟨0, by omega, rfl, ⟨by simp⟩, ⟨Upd.refl _ _⟩⟩
    case round =>
      obtain ⟨k, hk, rfl, HK, HW⟩ := hrel
      by_cases hlt : k < text.length
      · obtain ⟨g1, rfl⟩ : ∃ m, gk = m + 1 := ⟨gk - 1, by omega⟩
        obtain ⟨x, hx⟩ : ∃ x, text[k]? = some x := ⟨_, List.getElem?_eq_getElem hlt⟩
        obtain ⟨b, o, rfl, hF, hbl, c0, c1, c2, c3⟩ := tok_at (Rp.row_pure HX.out (HU1.out.trans HW.out (fun _ _ h => h))) hx
        have HXK := As.mk hx
        have HKK := As.mk hk
        clear hx hk
        by_cases hx0 : x.k = 0
        · rw [hx0] at c0
          have HX0 := As.mk hx0
          clear hx0
          go_wp2
          go_roundg g1
          case measure => omega
          case rel => exact ⟨k + 1, by have := HKK.out; omega, by go_num, ⟨by rw [List.take_add_one, HXK.out]; intro y hy; rcases List.mem_append.1 hy with hy | hy; exact HK.out y hy; simp at hy; rw [hy]; exact HX0.out⟩, ⟨HW.out.alloc _⟩⟩
        · have HX0 := As.mk hx0
          have hbq := As.mk ((HW.out.block w.heap.size (lt_of_block HB1.out) (fun h => h)).trans HB1.out)
          go_wp2_with (go_at_call 89; refine (refuse_calls _).mono ?_; rintro r w2 ⟨rfl, hu⟩; obtain ⟨_, hu2⟩ := one_up hu; have HB2 := As.mk ((hu2.block w.heap.size (lt_of_block hbq.out) (fun h => h)).trans hbq.out); have HU2 := As.mk (HU1.out.trans (HW.out.trans hu2 (fun _ _ h => h)) (fun _ _ h => h)); clear hu hu2; apply As.out)
          refine ⟨?_⟩
          have hbl : w.heap.size < w2.heap.size := (Array.getElem?_eq_some_iff.1 HB2.out).1
          have hcf : ∀ i, w2.frozen? ⟨w.heap.size, i, none⟩ = false := fun i => by simp [World.frozen?, HB2.out]
          obtain ⟨k0, k1, k2, k3, k4, k5, k6, k7⟩ := cells8 HB2.out
          go_wp2
          exact bodyPost_ret (step_end (rb := w.heap.size) rfl _ rfl (set8 (rb := w.heap.size) HB2.out _ _ _ _ _ _ _ _)) rfl (by obtain ⟨rfl, rfl⟩ := H1.out (fun h => HX0.out (h x (List.mem_of_getElem? HXK.out))); exact ⟨none, 0, ⟨rfl, set8_pure HU2.out (Nat.le_refl _) _ _ _ _ _ _ _ _⟩, ⟨.inl rfl, Nat.zero_le _⟩, fun _ => ⟨rfl, rfl⟩⟩)
      · obtain rfl : k = text.length := by omega
        rw [List.take_length] at HK
        have HK8 := As.mk (fun v (hu : Upd (fun k => k = w.heap.size) w1 v) => cells2 ((hu.block (w.heap.size + 1) (lt_of_block HQ1.out) (by omega)).trans HQ1.out))
        obtain ⟨wo, rfl⟩ : ∃ wo : World, wo = wr := ⟨_, rfl⟩
        have HWD := As.mk (HU1.out.trans HW.out (fun _ _ h => h)).drew
        go_wp2
        refine wp_region_T (P := Tryz.prog) (fun v => v.cell? ⟨w.heap.size + 1, 0, none⟩ = some (.pointer (some ⟨cb, 0, none⟩)) ∧ v.cell? ⟨w.heap.size + 1, 1, none⟩ = some (.slice A n c)) 9 (by kernel_rfl) ?_ (fun hHeld => ?_)
        · with_reducible (first | exact HK8.out _ (up1 HW.out.drew) | exact HK8.out _ (up1 HP2.out) | exact HK8.out _ (up1 HP3.out) | exact HK8.out _ (set8_upd (up1 HP3.out) _ _ _ _ _ _ _ _))
        refine takeT 0 (by exact opAt rfl) (by kernel_rfl) (by exact fun _ _ _ h => h) (by rfl) (by intro w hSw; (try dsimp only at hSw); go_simp; try with_reducible rfl) (by assumption) ?_
        (try simp only [Act.put, List.setIfInBounds_toArray, List.set_cons_zero, List.set_cons_succ])
        refine takeT 1 (by exact opAt rfl) (by kernel_rfl) (by exact fun _ _ _ h => h) (by rfl) (by intro w hSw; (try dsimp only at hSw); go_simp; try with_reducible rfl) (by assumption) ?_
        (try simp only [Act.put, List.setIfInBounds_toArray, List.set_cons_zero, List.set_cons_succ])
        refine takeT 2 (by exact opAt rfl) (by kernel_rfl) (by exact fun _ _ _ h => h) (by rfl) (by intro w hSw; (try dsimp only at hSw); go_simp; try with_reducible rfl) (by assumption) ?_
        (try simp only [Act.put, List.setIfInBounds_toArray, List.set_cons_zero, List.set_cons_succ])
        refine takeT 3 (by exact opAt rfl) (by kernel_rfl) (by exact fun _ _ _ h => h) (by rfl) (by intro w hSw; (try dsimp only at hSw); go_simp; try with_reducible rfl) (by assumption) ?_
        (try simp only [Act.put, List.setIfInBounds_toArray, List.set_cons_zero, List.set_cons_succ])
        refine wpAnyT_one (i := 4) (by kernel_rfl) (by exact opAt rfl) (fun K hK => ?_)
        refine Rp.step_append_row tokR (c := ct) (Rp.own_nil tokR 71 _ (fun _ => False)) (Rp.row'_of (Rp.row_pure HX.out HWD.out) (fun _ _ h => h)) (Fz := fun _ => False) (fun _ h => h.elim) (by rfl) _ _ 22 _ 32 (by rfl) Tryz.underlying22 tok_info rfl (by decide) (by decide) (by rfl) (by rfl) (by simp; omega) ?_; intro v1 w2 ho1 hu2 hat; obtain ⟨A1, c1, rfl, hc1, hrow1⟩ := Rp.own_slice ho1; simp only [List.nil_append] at hc1 hrow1 hat; have HP2 := As.mk (Upd.trans HW.out.drew hu2 (fun k _ h => by simp [Value.ownBlock] at h)); have HP2w := As.mk (HU1.out.trans HP2.out (fun _ _ h => h)); have HG1 := As.mk (Rp.row_fp (G := fun k => w.heap.size < k) hrow1 (fun k hk => by rcases hk with hk | hk | hk; exact hk.1.elim; exact hk.elim; rcases hat with hat | ⟨b, hb, hle⟩; (rw [hat] at hk; simp [Value.ownBlock] at hk); (rw [hb] at hk; cases hk; have h7 := HW.out.size; have h8 := lt_of_block HB1.out; simp at hle; omega))); have HR1 := As.mk (Rp.row_fp (G := fun _ => True) hrow1 (fun _ _ => trivial)); have HC1 := As.mk hc1; clear ho1 hu2 hat hc1 hrow1
        refine hK.out _ _ (fun _ => by with_reducible (first | exact HK8.out _ (up1 HW.out.drew) | exact HK8.out _ (up1 HP2.out) | exact HK8.out _ (up1 HP3.out) | exact HK8.out _ (set8_upd (up1 HP3.out) _ _ _ _ _ _ _ _))) (fun hHeld => ?_)
        replace hHeld := hHeld (by decide)
        clear hK K
        (try simp only [Act.put, List.setIfInBounds_toArray, List.set_cons_zero, List.set_cons_succ])
        refine wpAnyT_one (i := 5) (by kernel_rfl) (by exact opAt rfl) (fun K hK => ?_)
        go_simp
        (go_at_call 90; refine (HR.out HK.out w2 A1 c1 HP2w.out HR1.out HC1.out).mono ?_; rintro r w3 ⟨rfl, hu3⟩; have HP3 := As.mk (HP2.out.trans hu3 (fun _ _ h => h)); have HP3w := As.mk (HP2w.out.trans hu3 (fun _ _ h => h)); have HR3 := As.mk (Rp.row_pure HG1.out hu3); have HB3 := As.mk ((HP3.out.block w.heap.size (lt_of_block HB1.out) (fun h => h)).trans HB1.out); have hbl3 : w.heap.size < w3.heap.size := (Array.getElem?_eq_some_iff.1 HB3.out).1; have hcf3 : ∀ i, w3.frozen? ⟨w.heap.size, i, none⟩ = false := (fun i => by simp [World.frozen?, HB3.out]); obtain ⟨k0, k1, k2, k3, k4, k5, k6, k7⟩ := cells8 HB3.out; clear hu3)
        refine hK.out _ _ (fun _ => by with_reducible (first | exact HK8.out _ (up1 HW.out.drew) | exact HK8.out _ (up1 HP2.out) | exact HK8.out _ (up1 HP3.out) | exact HK8.out _ (set8_upd (up1 HP3.out) _ _ _ _ _ _ _ _))) (fun hHeld => ?_)
        replace hHeld := hHeld (by decide)
        clear hK K
        (try simp only [Act.put, List.setIfInBounds_toArray, List.set_cons_zero, List.set_cons_succ])
        refine takeT 6 (by exact opAt rfl) (by kernel_rfl) (by exact fun _ _ _ h => h) (by rfl) (by intro w hSw; (try dsimp only at hSw); go_simp; try with_reducible rfl) (by assumption) ?_
        (try simp only [Act.put, List.setIfInBounds_toArray, List.set_cons_zero, List.set_cons_succ])
        refine takeT 7 (by exact opAt rfl) (by kernel_rfl) (by exact fun _ _ _ h => h) (by rfl) (by intro w hSw; (try dsimp only at hSw); go_simp; try with_reducible rfl) (by assumption) ?_
        (try simp only [Act.put, List.setIfInBounds_toArray, List.set_cons_zero, List.set_cons_succ])
        refine wpAnyT_one (i := 8) (by kernel_rfl) (by exact opAt rfl) (fun K hK => ?_)
        go_simp
        refine hK.out _ _ (fun _ => by with_reducible (first | exact HK8.out _ (up1 HW.out.drew) | exact HK8.out _ (up1 HP2.out) | exact HK8.out _ (up1 HP3.out) | exact HK8.out _ (set8_upd (up1 HP3.out) _ _ _ _ _ _ _ _))) (fun hHeld => ?_)
        replace hHeld := hHeld (by decide)
        clear hK K
        (try simp only [Act.put, List.setIfInBounds_toArray, List.set_cons_zero, List.set_cons_succ])
        refine wpAnyT_one (i := 9) (by kernel_rfl) (by exact opAt rfl) (fun K hK => ?_)
        go_simp
        refine hK.out _ _ (fun h => absurd rfl h) (fun hHeld => ?_)
        clear hK K
        (try simp only [Act.put, List.setIfInBounds_toArray, List.set_cons_zero, List.set_cons_succ])
        refine wpAnyT_done (by kernel_rfl) ?_ _
        go_wp2
        exact bodyPost_ret (step_end (rb := w.heap.size) rfl _ rfl (set8 (rb := w.heap.size) HB3.out _ _ _ _ _ _ _ _)) rfl ⟨toldB A1 e, toldC c1 e, ⟨rfl, set8_pure HP3w.out (Nat.le_refl _) _ _ _ _ _ _ _ _⟩, told_row (e := e) HT.out.1 HT.out.2 (Rp.row_fp (G := fun k => w.heap.size ≤ k) (Rp.row_upd HR3.out (set8_upd (Upd.refl _ _) _ _ _ _ _ _ _ _) (fun k _ h e => by omega)) (fun _ h => by (try have h8 := HL.out); omega)) HC1.out, fun h => ⟨if_neg h, if_neg h⟩⟩
  · obtain ⟨rfl, rfl⟩ := h0 p0
    have f0 : (e != 0) = true := by simpa using p0
    clear hr HX HT h0 h1 p0
    unfold Told StepD.val at *
    go_enter Tryz.func31, Tryz.ntmps31
    go_wp2_with (first | (go_at_call 89; refine (refuse_calls _).mono ?_; rintro r w2 ⟨rfl, hu⟩; have HB2 := As.mk ((hu.block w.heap.size (lt_of_block HB1.out) (fun h => h)).trans HB1.out); have HU2 := As.mk (HU1.out.trans hu (fun _ _ h => h)); clear hu; apply As.out) | (go_at_call 88; refine (HP.out _ ((Upd.alloc1 (fun _ => False) _ _).alloc _)).mono ?_; rintro r w1 ⟨rfl, hu⟩; obtain ⟨hb1, hb2, hu2⟩ := two_up hu; obtain ⟨q0, q1⟩ := cells2 hb2; have HB1 := As.mk hb1; have HQ1 := As.mk hb2; have HU1 := As.mk hu2; clear hu hb1 hb2 hu2))
    refine ⟨?_⟩
    have hbl : w.heap.size < w2.heap.size := (Array.getElem?_eq_some_iff.1 HB2.out).1
    have hcf : ∀ i, w2.frozen? ⟨w.heap.size, i, none⟩ = false := fun i => by simp [World.frozen?, HB2.out]
    obtain ⟨k0, k1, k2, k3, k4, k5, k6, k7⟩ := cells8 HB2.out
    go_wp2
    exact bodyPost_ret (step_end (rb := w.heap.size) rfl _ rfl (set8 (rb := w.heap.size) HB2.out _ _ _ _ _ _ _ _)) rfl ⟨none, 0, ⟨rfl, set8_pure HU2.out (Nat.le_refl _) _ _ _ _ _ _ _ _⟩, ⟨.inl rfl, Nat.zero_le _⟩, fun _ => ⟨rfl, rfl⟩⟩
end Go.Proofs.YtfapglhdakhbeaaGreatDoor
namespace Go.Proofs.YtfapglhdakhbeaaGreatDoor
open Go.RowKit
set_option linter.unusedVariables false
set_option linter.unusedSimpArgs false

theorem row_some {w : World} {F : Nat → Prop} {A : Option Addr} {l : List Tok} (hr : tokR.row w F A l) (hne : l ≠ []) : ∃ b o, A = some ⟨b, o, none⟩ := by
  rcases hr with h | ⟨b, o, hA, _⟩
  · exact absurd h hne
  · exact ⟨b, o, hA⟩
theorem doc_repl {w : World} {F G : Nat → Prop} {A B : Option Addr} {c cb : Nat} {l sl : List Tok} {f t : Int} (hne : l ≠ []) (hr : tokR.row w F A l) (hlc : l.length ≤ c) (hs : tokR.row w G B sl) (hsc : sl.length ≤ cb)
    (h0 : (flatCheck l).2 = 0) (h1 : stepCheck (repl f t sl) = 0) (h2 : t ≤ l.length) : DoC w A c l B cb (repl f t sl) := by
  obtain ⟨b, o, rfl⟩ := row_some hr hne
  obtain ⟨h3, h4, h5, h6, _⟩ := step_check_zero.1 h1
  have hl := flat_len h0
  have h4' : 0 ≤ f := h4
  have h5' : f ≤ t := h5
  have h3' : sl.length ≤ 2048 := h3
  intro W hW
  obtain ⟨p, rfl⟩ := Int.eq_ofNat_of_zero_le h4'
  obtain ⟨q, rfl⟩ := Int.eq_ofNat_of_zero_le (Int.le_trans h4' h5')
  have := do_repl_some (A := none) (p := p) (q := q) (Rp.row_pure hr hW) hlc (Rp.row_pure hs hW) hsc (by omega) (by omega) (by omega)
  rw [← List.append_assoc] at this
  exact this
theorem Apply_repl {w : World} {F G : Nat → Prop} {A B : Option Addr} {c cb : Nat} {l sl : List Tok} {f t : Int} (hne : l ≠ []) (hr : tokR.row w F A l) (hlc : l.length ≤ c) (hb : l.length ≤ 1048576 * 4) (hs : tokR.row w G B sl) (hsc : sl.length ≤ cb) (hsb : sl.length ≤ 1048576 * 4) :
    Calls Tryz.prog 59 #[.slice A l.length c, (repl f t sl).val B cb] w (DocR w (stepDo l (repl f t sl)) (stepErr l (repl f t sl))) :=
  Apply_calls (s := repl f t sl) hr hs hb hsb (fun h0 h1 h2 => doc_repl hne hr hlc hs hsc h0 h1 h2)
theorem tell_repl {w : World} {F G : Nat → Prop} {cb : Nat} {A B : Option Addr} {c cs : Nat} {l sl : List Tok} {f t : Int} (h : SchR w cb houseRules houseGroups) (hne : l ≠ []) (hr : tokR.row w F A l) (hlc : l.length ≤ c) (hb : l.length ≤ 1048576 * 4) (hs : tokR.row w G B sl) (hsc : sl.length ≤ cs) (hsb : sl.length ≤ 1048576 * 4) :
    Calls Tryz.prog 96 #[deskV cb A l.length c, (repl f t sl).val B cs] w (Told (toldS (repl f t sl) (remapErr l (repl f t sl))) (toldB B (remapErr l (repl f t sl))) (toldC cs (remapErr l (repl f t sl))) (remapErr l (repl f t sl)) w) :=
  (tell_calls (fun W hW => Do_calls (h.pure hW) (fun V hV => Apply_repl hne (Rp.row_pure (Rp.row_pure hr hW) hV) hlc hb (Rp.row_pure (Rp.row_pure hs hW) hV) hsc hsb))).mono (fun _ _ h => ToldR.told h)
theorem replace_repl {w : World} {F G : Nat → Prop} {cb : Nat} {A B : Option Addr} {c cs : Nat} {l sl : List Tok} {f t : Int} (h : SchR w cb houseRules houseGroups) (hne : l ≠ []) (hr : tokR.row w F A l) (hlc : l.length ≤ c) (hb : l.length ≤ 1048576 * 4) (hs : tokR.row w G B sl) (hsc : sl.length ≤ cs) (hsb : sl.length ≤ 1048576 * 4) :
    Calls Tryz.prog 90 #[deskV cb A l.length c, .int .i64 f, .int .i64 t, .slice B sl.length cs] w (Told (toldS (repl f t sl) (remapErr l (repl f t sl))) (toldB B (remapErr l (repl f t sl))) (toldC cs (remapErr l (repl f t sl))) (remapErr l (repl f t sl)) w) :=
  replace_calls (fun W hW => tell_repl (h.pure hW) hne (Rp.row_pure hr hW) hlc hb (Rp.row_pure hs hW) hsc hsb)
theorem house_ne {l : List Tok} (h : (houseCheck l).2 = 0) : l ≠ [] := by
  rintro rfl
  rw [awake_nil] at h
  exact absurd h (by decide)
theorem toldS_refused {s : StepD} {e : Int} (h : e ≠ 0) : toldS s e = repl 0 0 [] := if_neg h
theorem toldS_zero {s : StepD} : toldS s 0 = s := rfl
def insErr (l : List Tok) (p : Int) (text : List Tok) : Int := if placesErr l p p ≠ 0 then placesErr l p p else if ¬ plainT text then 1 else remapErr l (repl p p text)
theorem ins_zero {l : List Tok} {p : Int} {text : List Tok} : insErr l p text = 0 ↔ (houseCheck l).2 = 0 ∧ 0 ≤ p ∧ p ≤ l.length ∧ plainT text ∧ remapErr l (repl p p text) = 0 := by
  unfold insErr
  by_cases h0 : placesErr l p p = 0
  · rw [if_neg (by omega)]
    obtain ⟨h1, h2, _, h3⟩ := places_zero.1 h0
    by_cases h4 : plainT text
    · rw [if_neg (fun h => h h4)]
      exact ⟨fun h => ⟨h1, h2, h3, h4, h⟩, fun h => h.2.2.2.2⟩
    · rw [if_pos h4]
      exact ⟨fun h => by omega, fun h => absurd h.2.2.2.1 h4⟩
  · rw [if_pos h0]
    exact ⟨fun h => absurd h h0, fun h => absurd (places_zero.2 ⟨h.1, h.2.1, by omega, h.2.2.1⟩) h0⟩
theorem Insert_new {w : World} {F G : Nat → Prop} {cb : Nat} {A T : Option Addr} {c ct : Nat} {l text : List Tok} {p : Int} (h : SchR w cb houseRules houseGroups) (hr : tokR.row w F A l) (hlc : l.length ≤ c) (hb : l.length ≤ 1048576 * 4) (hx : tokR.row w G T text) (hxb : text.length ≤ 1048576 * 4) :
    Calls Tryz.prog 31 #[.pointer (some ⟨cb, 0, none⟩), .slice A l.length c, .int .i64 p, .slice T text.length ct] w (fun r w' => ∃ B' c', Told (toldS (repl p p text) (insErr l p text)) B' c' (insErr l p text) w r w' ∧ (tokR.row w' (fun k => w.heap.size ≤ k) B' (toldS (repl p p text) (insErr l p text)).sl ∧ (toldS (repl p p text) (insErr l p text)).sl.length ≤ c') ∧ (insErr l p text ≠ 0 → B' = none ∧ c' = 0)) := by
  have hz : placesErr l p p = 0 → plainT text → insErr l p text = remapErr l (repl p p text) := by
    intro h1 h2
    unfold insErr
    rw [if_neg (by omega), if_neg (fun h => h h2)]
  refine Insert_at (pe := placesErr l p p) hx hxb (fun W hW => places_calls (h.pure hW) (Rp.row_pure hr hW) hb) (fun p0 hpl V A1 c1 hV hrow hc1 => ?_) (fun hp => ?_) (fun hp hn => ?_) (fun he => by rw [he]; rfl) (fun he => by rw [toldS_refused he]; rfl)
  · rw [hz p0 hpl]
    exact replace_repl (h.pure hV) (house_ne (places_zero.1 p0).1) (Rp.row_pure hr hV) hlc hb hrow hc1 hxb
  · have he : insErr l p text = placesErr l p p := by unfold insErr; rw [if_pos hp]
    rw [he]
    exact ⟨toldS_refused hp, rfl⟩
  · have he : insErr l p text = 1 := by unfold insErr; rw [if_neg (by omega), if_pos hn]
    rw [he]
    exact ⟨toldS_refused (by decide), rfl⟩
theorem Insert_calls {w : World} {F G : Nat → Prop} {cb : Nat} {A T : Option Addr} {c ct : Nat} {l text : List Tok} {p : Int} (h : SchR w cb houseRules houseGroups) (hr : tokR.row w F A l) (hlc : l.length ≤ c) (hb : l.length ≤ 1048576 * 4) (hx : tokR.row w G T text) (hxb : text.length ≤ 1048576 * 4) :
    Calls Tryz.prog 31 #[.pointer (some ⟨cb, 0, none⟩), .slice A l.length c, .int .i64 p, .slice T text.length ct] w (fun r w' => ∃ B' c', Told (toldS (repl p p text) (insErr l p text)) B' c' (insErr l p text) w r w' ∧ (tokR.row w' (fun _ => True) B' (toldS (repl p p text) (insErr l p text)).sl ∧ (toldS (repl p p text) (insErr l p text)).sl.length ≤ c') ∧ (insErr l p text ≠ 0 → B' = none ∧ c' = 0)) :=
  (Insert_new h hr hlc hb hx hxb).mono fun r w' ⟨B', c', h1, ⟨h2, h3⟩, h4⟩ => ⟨B', c', h1, ⟨Rp.row_fp h2 (fun _ _ => trivial), h3⟩, h4⟩
theorem del_zero {l : List Tok} {f t : Int} : delErr l f t = 0 ↔ (houseCheck l).2 = 0 ∧ 0 ≤ f ∧ f ≤ t ∧ t ≤ l.length ∧ remapErr l (repl f t []) = 0 := by
  unfold delErr
  by_cases h0 : placesErr l f t = 0
  · rw [if_neg (by omega)]
    obtain ⟨h1, h2, h3, h4⟩ := places_zero.1 h0
    exact ⟨fun h => ⟨h1, h2, h3, h4, h⟩, fun h => h.2.2.2.2⟩
  · rw [if_pos h0]
    exact ⟨fun h => absurd h h0, fun h => absurd (places_zero.2 ⟨h.1, h.2.1, h.2.2.1, h.2.2.2.1⟩) h0⟩
theorem Delete_calls {w : World} {F : Nat → Prop} {cb : Nat} {A : Option Addr} {c : Nat} {l : List Tok} {f t : Int} (h : SchR w cb houseRules houseGroups) (hr : tokR.row w F A l) (hlc : l.length ≤ c) (hb : l.length ≤ 1048576 * 4) :
    Calls Tryz.prog 33 #[.pointer (some ⟨cb, 0, none⟩), .slice A l.length c, .int .i64 f, .int .i64 t] w (Told (toldS (repl f t []) (delErr l f t)) none 0 (delErr l f t) w) := by
  refine Delete_at (pe := placesErr l f t) (fun W hW => places_calls (h.pure hW) (Rp.row_pure hr hW) hb) (fun p0 W hW => ?_) (fun hp => ?_)
  · have he : delErr l f t = remapErr l (repl f t []) := by unfold delErr; rw [if_neg (by omega)]
    rw [he]
    have := replace_repl (f := f) (t := t) (B := none) (cs := 0) (sl := []) (G := fun _ => True) (h.pure hW) (house_ne (places_zero.1 p0).1) (Rp.row_pure hr hW) hlc hb (.inl rfl) (Nat.le_refl _) (by simp)
    have hB : toldB none (remapErr l (repl f t [])) = none := by unfold toldB; split <;> rfl
    have hC : toldC 0 (remapErr l (repl f t [])) = 0 := by unfold toldC; split <;> rfl
    rw [hB, hC] at this
    exact this
  · have he : delErr l f t = placesErr l f t := by unfold delErr; rw [if_pos hp]
    rw [he]
    exact ⟨by rw [toldS_refused hp]; rfl, rfl⟩
end Go.Proofs.YtfapglhdakhbeaaGreatDoor
namespace Go.Proofs.YtfapglhdakhbeaaGreatDoor
open Go.RowKit
set_option linter.unusedVariables false
set_option linter.unusedSimpArgs false

set_option maxRecDepth 100000 in
set_option maxHeartbeats 4000000 in
theorem twin_zero (w : World) : Calls Tryz.prog 93 #[step0, step0] w fun r w' => r = .returned (.bool true) ∧ Pure w w' := by
  have HA := As.mk (fun (W : World) => Alike_same (c := 0) (c' := 0) (A := none) (B := none) (F := fun _ => True) (G := fun _ => True) (l := []) (w := W) (.inl rfl) (.inl rfl) (by simp))
  go_enter Tryz.func93, Tryz.ntmps93
  go_wp2_with (go_at_call 146; refine (HA.out _).mono ?_; rintro r w1 ⟨rfl, hu⟩; have HU1 := As.mk ((((Upd.refl _ w).alloc _).alloc _).trans hu (fun _ _ h => h)); clear hu)
  go_ret
  exact ⟨rfl, HU1.out⟩
abbrev textX : List Tok := [⟨0, 0, 120, 0⟩]
theorem awake_ins : insErr awakeDoc 1 textX = 0 := by kernel_rfl
set_option maxRecDepth 100000 in
set_option maxHeartbeats 4000000 in
theorem awake12_calls (w : World) : Calls Tryz.prog 30 #[] w fun r w' => r = .returned (.bool true) ∧ Pure w w' := by
  have HH := As.mk (fun W => House_calls W)
  have HC1 := As.mk (fun (W : World) (cb : Nat) (hs : SchR W cb houseRules houseGroups) => (by
    have hp : Pure W ((W.alloc (.cells #[.int .i64 1, .int .i64 1, .int .i64 0, .int .i64 0, .int .i64 2, .int .i64 0, .int .i64 0, .int .i64 0] 71)).alloc (.cells #[.int .i64 0, .int .i64 0, .int .i64 120, .int .i64 0] 71)) := (Upd.alloc1 _ _ _).alloc _
    have r1 : tokR.row ((W.alloc (.cells #[.int .i64 1, .int .i64 1, .int .i64 0, .int .i64 0, .int .i64 2, .int .i64 0, .int .i64 0, .int .i64 0] 71)).alloc (.cells #[.int .i64 0, .int .i64 0, .int .i64 120, .int .i64 0] 71)) (fun _ => True) (some ⟨W.heap.size, 0, none⟩) awakeDoc := Rp.row_pure (row_toks (F := fun _ => True) (heap_alloc_new W _) trivial) (Upd.alloc1 _ _ _)
    have r2 : tokR.row ((W.alloc (.cells #[.int .i64 1, .int .i64 1, .int .i64 0, .int .i64 0, .int .i64 2, .int .i64 0, .int .i64 0, .int .i64 0] 71)).alloc (.cells #[.int .i64 0, .int .i64 0, .int .i64 120, .int .i64 0] 71)) (fun _ => True) (some ⟨W.heap.size + 1, 0, none⟩) textX := row_toks (F := fun _ => True) (heap_alloc2_new W _ _) trivial
    have h1 := Insert_calls (c := 2) (ct := 1) (p := 1) (hs.pure hp) r1 (by decide) (by decide) r2 (by decide)
    rw [awake_ins] at h1
    exact h1.mono fun r w' h => (by
      obtain ⟨B', c', ⟨h2, h3⟩, _, _⟩ := h
      exact ⟨⟨B', c', h2⟩, hp.trans h3 (fun _ _ h => h)⟩) :
    Calls Tryz.prog 31 #[.pointer (some ⟨cb, 0, none⟩), .slice (some ⟨W.heap.size, 0, none⟩) 2 2, .int .i64 1, .slice (some ⟨W.heap.size + 1, 0, none⟩) 1 1] ((W.alloc (.cells #[.int .i64 1, .int .i64 1, .int .i64 0, .int .i64 0, .int .i64 2, .int .i64 0, .int .i64 0, .int .i64 0] 71)).alloc (.cells #[.int .i64 0, .int .i64 0, .int .i64 120, .int .i64 0] 71)) fun r w' => (∃ B c, r = .returned (.tuple #[.agg #[.int .i64 0, .int .i64 1, .int .i64 1, .int .i64 0, .int .i64 0, .int .i64 0, .slice B 1 c, .int .i64 0], .int .i64 0])) ∧ Pure W w'))
  go_enter Tryz.func30, Tryz.ntmps30
  go_wp2_with (first | (go_at_call 31; refine (HC1.out _ _ HS1.out).mono ?_; rintro r w2 ⟨⟨B2, c2, rfl⟩, hu⟩; have HU2 := As.mk (HU1.out.trans hu (fun _ _ h => h)); clear hu) | (go_at_call 15; refine (HH.out w).mono ?_; rintro r w1 ⟨cb1, rfl, hs, hu⟩; have HS1 := As.mk hs; have HU1 := As.mk hu; clear hu hs))
  go_ret
  exact ⟨rfl, HU2.out.alloc _⟩
end Go.Proofs.YtfapglhdakhbeaaGreatDoor
