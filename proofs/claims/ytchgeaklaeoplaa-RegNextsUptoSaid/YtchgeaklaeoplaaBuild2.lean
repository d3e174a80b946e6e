/- reg.machine.build: the walk. -/
import Derived.Test.YtchgeaklaeoplaaBuild
namespace Go.Proofs.Ytchgeaklaeoplaa
open Go.RowKit
set_option linter.unusedVariables false
set_option linter.unusedSimpArgs false

/-- What build leaves. -/
def BuildPost (w w' : World) (B : Nat) (M : Nat → Prop) (mb : Nat) (b0 b1 b2 : Value) (s : St) (p : Part) (r : Ending) : Prop :=
  ∃ Af cf Al cl M' tv fv vs, r = .returned (.agg #[.bool p.none, .slice Af p.first.length cf, .slice Al p.last.length cl]) ∧ Mach w' B M' mb s.1 s.2 b0 b1 b2 tv fv vs ∧ Grow M M' w.heap.size w'.heap.size ∧
    intR.row w' (fun k => w.heap.size ≤ k ∧ ¬ M' k) Af p.first ∧ intR.row w' (fun k => w.heap.size ≤ k ∧ ¬ M' k) Al p.last ∧ Upd M w w'

theorem build_ret {R : Ending → World → Prop} {a : Act} {w' : World} {rb : Nat} {v0 v1 v2 : Value} {fr : Nat × Nat} (hp : a.tmps.getD 6 undef = .pointer (some ⟨rb, 0, none⟩)) (hg : w'.heap[rb]? = some (.cells #[v0, v1, v2] 67 fr)) (hd : a.defers = []) (hR : R (.returned (.agg #[v0, v1, v2])) w') :
    bodyPost Try.prog Try.f35 R .ret a w' :=
  bodyPost_ret (results_cell_row (P := Try.prog) rfl _ _ rb 67 #[v0, v1, v2] fr _ hp hg Try.underlying67 rfl (by kernel_rfl)) hd hR

theorem set3 {w : World} {rb : Nat} {x0 x1 x2 : Value} {t : TypeId} {fr : Nat × Nat} (h : w.heap[rb]? = some (.cells #[x0, x1, x2] t fr)) (y0 y1 y2 : Value) :
    (((w.setCell ⟨rb, 0, none⟩ y0).setCell ⟨rb, 1, none⟩ y1).setCell ⟨rb, 2, none⟩ y2).heap[rb]? = some (.cells #[y0, y1, y2] t fr) := by simp [World.setCell, Array.getElem?_modify, h]
theorem set3_upd (w : World) (rb : Nat) (y0 y1 y2 : Value) : Upd (fun k => k = rb) w (((w.setCell ⟨rb, 0, none⟩ y0).setCell ⟨rb, 1, none⟩ y1).setCell ⟨rb, 2, none⟩ y2) :=
  (((Upd.refl (fun k => k = rb) w).setCell (p := ⟨rb, 0, none⟩) (fun _ => rfl) _).setCell (p := ⟨rb, 1, none⟩) (fun _ => rfl) _).setCell (p := ⟨rb, 2, none⟩) (fun _ => rfl) _
theorem slice_info : (Try.prog.info? 26).map (fun i => (i.zero, i.size, i.bytes)) = some (some (.slice none 0 0), 1, 24) := by kernel_rfl

/-- What is shown of build, tree by tree. -/
def BuildC (e : Ex) : Prop := ∀ (w : World) (B : Nat) (M F G : Nat → Prop) (mb : Nat) (s : St) (b0 b1 b2 tv fv : Value) (vs : List Value) (A Ag : Option Addr) (c cg : Nat) (g : List Grp), s.2.length = s.1.length →
  Mach w B M mb s.1 s.2 b0 b1 b2 tv fv vs → exR.row w F A e.l → (∀ k, F k → k < B) → grpR.row w G Ag g → (∀ k, G k → k < B) → g.length ≤ 1048576 → s.1.length + e.cnt ≤ 1000 → (∀ x ∈ s.2, x.length + 80000 * e.cnt ≤ 1000000000) →
  Calls Try.prog 35 #[.pointer (some ⟨mb, 0, none⟩), e.val A c, .slice Ag g.length cg] w fun r w' => BuildPost w w' B M mb b0 b1 b2 (glu g e s).1 (glu g e s).2 r

set_option maxRecDepth 100000 in
set_option maxHeartbeats 4000000 in
theorem build_none (nm : ByteArray) (l : List Ex) : BuildC (.mk 0 nm l) := by
  intro w B M F G mb s b0 b1 b2 tv fv vs A Ag c cg g hsl0 hm hr hF hg hG hgl hs hfb
  obtain ⟨s1, s2⟩ := s
  have HM := As.mk hm
  have HR := As.mk hr
  have HF := As.mk hF
  have HG := As.mk hg
  have HGB := As.mk hG
  have HFB := As.mk hfb
  simp only at hsl0
  have hlb := (hm.low mb hm.mbM)
  clear hm hr hF hg hG hfb
  have HV : As (glu g (.mk 0 nm l) (s1, s2) = ((s1, s2), ⟨true, [], []⟩)) := ⟨by rw [glu]; rfl⟩
  show Calls Try.prog 35 #[.pointer (some ⟨mb, 0, none⟩), .agg #[.int .i64 0, .string nm, .slice A l.length c], .slice Ag g.length cg] w _
  go_enter Try.func35, Try.ntmps35
  go_wp2
  refine build_ret (rb := w.heap.size + 1) rfl (heap_alloc2_new w _ _) rfl ?_
  rw [HV.out]
  exact ⟨none, 0, none, 0, M, tv, fv, vs, rfl, HM.out.pure ((Upd.alloc1 _ _ _).alloc _), ⟨fun _ h => h, fun _ h => .inl h⟩, .inl rfl, .inl rfl, (Upd.alloc1 _ _ _).alloc _⟩

set_option maxRecDepth 100000 in
set_option maxHeartbeats 4000000 in
theorem build_name (nm : ByteArray) (l : List Ex) : BuildC (.mk 1 nm l) := by
  intro w B M F G mb s b0 b1 b2 tv fv vs A Ag c cg g hsl0 hm hr hF hg hG hgl hs hfb
  obtain ⟨s1, s2⟩ := s
  have HM := As.mk hm
  have HR := As.mk hr
  have HF := As.mk hF
  have HG := As.mk hg
  have HGB := As.mk hG
  have HFB := As.mk hfb
  simp only at hsl0
  have hlb := (hm.low mb hm.mbM)
  clear hm hr hF hg hG hfb
  have hcnt : 1 ≤ (Ex.mk 1 nm l).cnt := Ex.cnt_pos _
  have HV : As (glu g (.mk 1 nm l) (s1, s2) = ((s1 ++ [typesOf g nm], s2 ++ [[]]), ⟨false, [(s1.length : Int)], [(s1.length : Int)]⟩)) := ⟨by rw [glu]; rfl⟩
  have hsl : s1.length ≤ 1000 := by simp only at hs; omega
  show Calls Try.prog 35 #[.pointer (some ⟨mb, 0, none⟩), .agg #[.int .i64 1, .string nm, .slice A l.length c], .slice Ag g.length cg] w _
  go_enter Try.func35, Try.ntmps35
  go_wp2
  generalize hW : (w.alloc (.cells #[.int .i64 1, .string nm, .slice A l.length c] 24)).alloc (.cells #[.bool false, .slice none 0 0, .slice none 0 0] 67) = W
  have HPW : As (Pure w W) := ⟨hW ▸ (Upd.alloc1 _ _ _).alloc _⟩
  have hWs : W.heap.size = w.heap.size + 2 := by subst hW; simp
  have HRB : As (W.heap[w.heap.size + 1]? = some (.cells #[.bool false, .slice none 0 0, .slice none 0 0] 67)) := ⟨hW ▸ heap_alloc2_new w _ _⟩
  have HEB : W.heap[w.heap.size]? = some (.cells #[.int .i64 1, .string nm, .slice A l.length c] 24) := hW ▸ heap_alloc2_old w _ _
  have HXC : W.cell? ⟨w.heap.size, 1, none⟩ = some (.string nm) := by unfold World.cell?; simp only [HEB]; rfl
  clear hW HEB
  have HMW := As.mk (HM.out.pure HPW.out)
  have HMd := As.mk (HMW.out.pure ((Upd.refl _ _).drew))
  have HPd := As.mk (show Pure w W.drew from HPW.out.drew)
  have HSK : As (∀ w1, Upd (fun k => tv.ownBlock = some k) W.drew w1 → w1.cell? ⟨mb, 0, none⟩ = some tv ∧ w1.frozen? ⟨mb, 0, none⟩ = false ∧ w1.cell? ⟨w.heap.size, 1, none⟩ = some (.string nm)) := ⟨by
    intro w1 hu
    obtain ⟨ti, hto, _⟩ := HMd.out.types
    have n1 : ¬ tv.ownBlock = some mb := own_ne_block hto HMd.out.blk (by decide)
    have n2 : ¬ tv.ownBlock = some w.heap.size := fun h => by have := (HM.out.low _ (HM.out.typesM _ h)).2; omega
    have hb : W.drew.heap.size = W.heap.size := rfl
    have hml := (HMd.out.low _ HMd.out.mbM).2
    have hbk := HMd.out.blk
    refine ⟨(hu.cell hml n1).trans ?_, (hu.frozen hml n1).trans ?_, (hu.cell (by omega) n2).trans HXC⟩
    · unfold World.cell?; simp only [hbk]; rfl
    · simp [World.frozen?, hbk]⟩
  have HS0 := As.mk (HSK.out _ (Upd.refl _ _))
  clear HXC
  refine wp_region_T (P := Try.prog) (fun w1 => w1.cell? ⟨mb, 0, none⟩ = some tv ∧ w1.frozen? ⟨mb, 0, none⟩ = false ∧ w1.cell? ⟨w.heap.size, 1, none⟩ = some (.string nm)) 13 (by kernel_rfl) ?_ (fun hHeld => ?_)
  · first | exact HS0.out | exact HSK.out _ HA3.out | exact HSK.out _ HA2.out | exact HSK.out _ HA1.out
  refine wpAnyT_take (i := 0) (oi := { dst := (some 24), op := (Go.Op.move (Go.Operand.tmp 0)), type := 43, pos := "reg.go:76", after := #[], guard := none }) (v := ?_) rfl (by kernel_rfl) (by kernel_rfl) (by kernel_rfl) (by kernel_rfl) (fun _ _ _ h => h) (Or.inl ⟨by rfl, (by intro w hSw; (try dsimp only at hSw); go_simp; try with_reducible rfl)⟩) (by assumption) ?_
  (try simp only [Act.put, List.setIfInBounds_toArray, List.set_cons_zero, List.set_cons_succ])
  refine wpAnyT_take (i := 1) (oi := { dst := (some 25), op := (Go.Op.move (Go.Operand.tmp 0)), type := 43, pos := "reg.go:76", after := #[], guard := none }) (v := ?_) rfl (by kernel_rfl) (by kernel_rfl) (by kernel_rfl) (by kernel_rfl) (fun _ _ _ h => h) (Or.inl ⟨by rfl, (by intro w hSw; (try dsimp only at hSw); go_simp; try with_reducible rfl)⟩) (by assumption) ?_
  (try simp only [Act.put, List.setIfInBounds_toArray, List.set_cons_zero, List.set_cons_succ])
  refine wpAnyT_take (i := 2) (oi := { dst := (some 26), op := (Go.Op.nilCheck (Go.Operand.tmp 25)), type := 0, pos := "reg.go:76", after := #[{ on := 1, ground := Go.Ground.data }], guard := none }) (v := ?_) rfl (by kernel_rfl) (by kernel_rfl) (by kernel_rfl) (by kernel_rfl) (fun _ _ _ h => h) (Or.inl ⟨by rfl, (by intro w hSw; (try dsimp only at hSw); go_simp; try with_reducible rfl)⟩) (by assumption) ?_
  (try simp only [Act.put, List.setIfInBounds_toArray, List.set_cons_zero, List.set_cons_succ])
  refine wpAnyT_take (i := 3) (oi := { dst := (some 27), op := (Go.Op.fieldAddr 69 (Go.Operand.tmp 26) 0), type := 0, pos := "reg.go:76", after := #[{ on := 2, ground := Go.Ground.data }], guard := none }) (v := ?_) rfl (by kernel_rfl) (by kernel_rfl) (by kernel_rfl) (by kernel_rfl) (fun _ _ _ h => h) (Or.inl ⟨by rfl, (by intro w hSw; (try dsimp only at hSw); go_simp; try with_reducible rfl)⟩) (by assumption) ?_
  (try simp only [Act.put, List.setIfInBounds_toArray, List.set_cons_zero, List.set_cons_succ])
  refine wpAnyT_take (i := 4) (oi := { dst := (some 28), op := (Go.Op.load 65 (Go.Operand.tmp 27)), type := 65, pos := "reg.go:76", after := #[{ on := 3, ground := Go.Ground.data }], guard := none }) (v := ?_) rfl (by kernel_rfl) (by kernel_rfl) (by kernel_rfl) (by kernel_rfl) (fun _ _ _ h => h) (Or.inl ⟨by rfl, (by intro w hSw; (try dsimp only at hSw); go_simp; try with_reducible rfl)⟩) (by assumption) ?_
  (try simp only [Act.put, List.setIfInBounds_toArray, List.set_cons_zero, List.set_cons_succ])
  refine wpAnyT_take (i := 5) (oi := { dst := (some 29), op := (Go.Op.move (Go.Operand.tmp 2)), type := 25, pos := "reg.go:76", after := #[], guard := none }) (v := ?_) rfl (by kernel_rfl) (by kernel_rfl) (by kernel_rfl) (by kernel_rfl) (fun _ _ _ h => h) (Or.inl ⟨by rfl, (by intro w hSw; (try dsimp only at hSw); go_simp; try with_reducible rfl)⟩) (by assumption) ?_
  (try simp only [Act.put, List.setIfInBounds_toArray, List.set_cons_zero, List.set_cons_succ])
  refine wpAnyT_take (i := 6) (oi := { dst := (some 30), op := (Go.Op.fieldAddr 24 (Go.Operand.tmp 4) 1), type := 0, pos := "reg.go:76", after := #[], guard := none }) (v := ?_) rfl (by kernel_rfl) (by kernel_rfl) (by kernel_rfl) (by kernel_rfl) (fun _ _ _ h => h) (Or.inl ⟨by rfl, (by intro w hSw; (try dsimp only at hSw); go_simp; try with_reducible rfl)⟩) (by assumption) ?_
  (try simp only [Act.put, List.setIfInBounds_toArray, List.set_cons_zero, List.set_cons_succ])
  refine wpAnyT_take (i := 7) (oi := { dst := (some 31), op := (Go.Op.load 9 (Go.Operand.tmp 30)), type := 9, pos := "reg.go:76", after := #[{ on := 6, ground := Go.Ground.data }], guard := none }) (v := ?_) rfl (by kernel_rfl) (by kernel_rfl) (by kernel_rfl) (by kernel_rfl) (fun _ _ _ h => h) (Or.inl ⟨by rfl, (by intro w hSw; (try dsimp only at hSw); go_simp; try with_reducible rfl)⟩) (by assumption) ?_
  (try simp only [Act.put, List.setIfInBounds_toArray, List.set_cons_zero, List.set_cons_succ])
  refine wpAnyT_one (i := 8) (o := { dst := (some 32), op := (Go.Op.call { callee := (Go.Callee.value (Go.Operand.func 32)), args := #[(Go.Operand.tmp 29), (Go.Operand.tmp 31)], argTypes := #[25, 9] }), type := 26, pos := "reg.go:76", after := #[{ on := 5, ground := Go.Ground.data }, { on := 7, ground := Go.Ground.data }], guard := none }) (by kernel_rfl) rfl (fun K hK => ?_)
  go_simp
  (go_at_call 32; refine (types_calls nm (Rp.row_pure HG.out HPd.out) hgl).mono ?_; rintro e w1 ⟨⟨A1, c1, rfl, hc1, hrow⟩, hu⟩; have HA1 := As.mk (show Upd (fun k => tv.ownBlock = some k) W.drew w1 from hu.mono (fun _ _ h => h.elim)); have HA2 := As.mk (show Upd (fun k => tv.ownBlock = some k) W.drew (w1.alloc (.cells #[.slice A1 (typesOf g nm).length c1] 26)) from HA1.out.alloc _); have HP2 := As.mk (show Pure W.drew (w1.alloc (.cells #[.slice A1 (typesOf g nm).length c1] 26)) from hu.alloc _); have HO := As.mk (Rp.own_upd HMd.out.types HP2.out (fun _ _ _ h => h)); have HY := As.mk (Rp.row'_one (d := intR.slice) (F := fun k => k < B) (x := typesOf g nm) (cs := [.slice A1 (typesOf g nm).length c1]) ⟨A1, c1, rfl, hc1, Rp.row_fp (Rp.row_pure hrow HP2.out) HGB.out⟩ (heap_alloc_new w1 (.cells #[.slice A1 (typesOf g nm).length c1] 26))); clear hrow hu)
  refine hK.out _ _ (fun _ => by first | exact HS0.out | exact HSK.out _ HA3.out | exact HSK.out _ HA2.out | exact HSK.out _ HA1.out) (fun hHeld => ?_)
  replace hHeld := hHeld (by decide)
  clear hK K
  (try simp only [Act.put, List.setIfInBounds_toArray, List.set_cons_zero, List.set_cons_succ])
  refine wpAnyT_one (i := 9) (o := { dst := (some 33), op := (Go.Op.buildSlice 65 1 #[(0, (Go.Operand.tmp 32))]), type := 65, pos := "reg.go:76", after := #[{ on := 8, ground := Go.Ground.data }], guard := none }) (by kernel_rfl) rfl (fun K hK => ?_)
  go_simp
  refine hK.out _ _ (fun _ => by first | exact HS0.out | exact HSK.out _ HA3.out | exact HSK.out _ HA2.out | exact HSK.out _ HA1.out) (fun hHeld => ?_)
  replace hHeld := hHeld (by decide)
  clear hK K
  (try simp only [Act.put, List.setIfInBounds_toArray, List.set_cons_zero, List.set_cons_succ])
  refine wpAnyT_one (i := 10) (o := { dst := (some 34), op := (Go.Op.call { callee := (Go.Callee.builtin Go.Builtin.append), args := #[(Go.Operand.tmp 28), (Go.Operand.tmp 33)], argTypes := #[65, 65] }), type := 65, pos := "reg.go:76", after := #[{ on := 4, ground := Go.Ground.data }, { on := 9, ground := Go.Ground.data }, { on := 8, ground := Go.Ground.chain }], guard := none }) (by kernel_rfl) rfl (fun K hK => ?_)
  refine Rp.step_append_row intR.slice (c := 1) HO.out HY.out (fun k hk _ he => by have := (HM.out.low k (HM.out.typesM k he.symm)).1; omega) (by rfl) _ _ 65 (.slice none 0 0) 24 (by rfl) Try.underlying65 slice_info rfl (by decide) (by decide) (by rfl) (by rfl) (by simp; omega) ?_; intro v1 w2 ho1 hu1 hat; obtain ⟨A2, c2, rfl, _, _⟩ := Rp.own_slice ho1; have HA3 := As.mk (show Upd (fun k => tv.ownBlock = some k) W.drew w2 from Upd.trans HA2.out hu1 (fun _ _ h => h)); have HM3 := As.mk (Mach.types1 (HMd.out.pure HP2.out) ho1 hu1 hat); have HW3 := As.mk hu1.size; clear ho1 hu1 hat
  refine hK.out _ _ (fun _ => by first | exact HS0.out | exact HSK.out _ HA3.out | exact HSK.out _ HA2.out | exact HSK.out _ HA1.out) (fun hHeld => ?_)
  replace hHeld := hHeld (by decide)
  clear hK K
  (try simp only [Act.put, List.setIfInBounds_toArray, List.set_cons_zero, List.set_cons_succ])
  refine wpAnyT_one (i := 11) (o := { dst := (some 35), op := (Go.Op.nilCheck (Go.Operand.tmp 24)), type := 0, pos := "reg.go:76", after := #[{ on := 0, ground := Go.Ground.data }, { on := 0, ground := Go.Ground.phase }, { on := 1, ground := Go.Ground.phase }, { on := 2, ground := Go.Ground.phase }, { on := 3, ground := Go.Ground.phase }, { on := 4, ground := Go.Ground.phase }, { on := 5, ground := Go.Ground.phase }, { on := 6, ground := Go.Ground.phase }, { on := 7, ground := Go.Ground.phase }, { on := 8, ground := Go.Ground.phase }, { on := 9, ground := Go.Ground.phase }, { on := 10, ground := Go.Ground.phase }], guard := none }) (by kernel_rfl) rfl (fun K hK => ?_)
  go_simp
  refine hK.out _ _ (fun _ => by first | exact HS0.out | exact HSK.out _ HA3.out | exact HSK.out _ HA2.out | exact HSK.out _ HA1.out) (fun hHeld => ?_)
  replace hHeld := hHeld (by decide)
  clear hK K
  (try simp only [Act.put, List.setIfInBounds_toArray, List.set_cons_zero, List.set_cons_succ])
  refine wpAnyT_take (i := 12) (oi := { dst := (some 36), op := (Go.Op.fieldAddr 69 (Go.Operand.tmp 35) 0), type := 0, pos := "reg.go:76", after := #[{ on := 11, ground := Go.Ground.data }, { on := 0, ground := Go.Ground.phase }, { on := 1, ground := Go.Ground.phase }, { on := 2, ground := Go.Ground.phase }, { on := 3, ground := Go.Ground.phase }, { on := 4, ground := Go.Ground.phase }, { on := 5, ground := Go.Ground.phase }, { on := 6, ground := Go.Ground.phase }, { on := 7, ground := Go.Ground.phase }, { on := 8, ground := Go.Ground.phase }, { on := 9, ground := Go.Ground.phase }, { on := 10, ground := Go.Ground.phase }], guard := none }) (v := ?_) rfl (by kernel_rfl) (by kernel_rfl) (by kernel_rfl) (by kernel_rfl) (fun _ _ _ h => h) (Or.inl ⟨by rfl, (by intro w hSw; (try dsimp only at hSw); go_simp; try with_reducible rfl)⟩) (by assumption) ?_
  (try simp only [Act.put, List.setIfInBounds_toArray, List.set_cons_zero, List.set_cons_succ])
  refine wpAnyT_one (i := 13) (o := { dst := none, op := (Go.Op.store 65 (Go.Operand.tmp 36) (Go.Operand.tmp 34)), type := 0, pos := "reg.go:76", after := #[{ on := 12, ground := Go.Ground.data }, { on := 10, ground := Go.Ground.data }, { on := 10, ground := Go.Ground.chain }, { on := 0, ground := Go.Ground.phase }, { on := 1, ground := Go.Ground.phase }, { on := 2, ground := Go.Ground.phase }, { on := 3, ground := Go.Ground.phase }, { on := 4, ground := Go.Ground.phase }, { on := 5, ground := Go.Ground.phase }, { on := 6, ground := Go.Ground.phase }, { on := 7, ground := Go.Ground.phase }, { on := 8, ground := Go.Ground.phase }, { on := 9, ground := Go.Ground.phase }, { on := 10, ground := Go.Ground.phase }], guard := none }) (by kernel_rfl) rfl (fun K hK => ?_)
  go_simp
  refine hK.out _ _ (fun h => absurd rfl h) (fun hHeld => ?_)
  clear hK K
  (try simp only [Act.put, List.setIfInBounds_toArray, List.set_cons_zero, List.set_cons_succ])
  refine wpAnyT_done (by kernel_rfl) ?_ _
  obtain ⟨hm3, hu3⟩ := HM3.out
  have hl1 : (s1 ++ [typesOf g nm]).length = s1.length + 1 := by simp
  rw [hl1] at hm3 hu3
  have hrb3 : (w2.setCell ⟨mb, 0, none⟩ (.slice A2 (s1.length + 1) c2)).heap[w.heap.size + 1]? = some (.cells #[.bool false, .slice none 0 0, .slice none 0 0] 67 (0, 0)) := by
    have n1 : ¬ M (w.heap.size + 1) := fun h => by have := (HM.out.low _ h).2; omega
    have e1 := hu3.block (w.heap.size + 1) (Nat.lt_of_lt_of_le (show w.heap.size + 1 < W.heap.size by omega) HP2.out.size) n1
    rw [e1, HP2.out.block (w.heap.size + 1) (by show w.heap.size + 1 < W.heap.size; omega) (fun h => h)]
    exact HRB.out
  have hs3 : W.heap.size ≤ (w2.setCell ⟨mb, 0, none⟩ (.slice A2 (s1.length + 1) c2)).heap.size := by
    have h1 : W.heap.size ≤ (w1.alloc (.cells #[.slice A1 (typesOf g nm).length c1] 26)).heap.size := HP2.out.size
    have h2 := hu3.size
    omega
  have hg3 : As (Grow M (fun k => M k ∨ ((w1.alloc (.cells #[.slice A1 (typesOf g nm).length c1] 26)).heap.size ≤ k ∧ k < w2.heap.size)) w.heap.size (w2.setCell ⟨mb, 0, none⟩ (.slice A2 (s1.length + 1) c2)).heap.size) := ⟨⟨fun k hk => .inl hk, fun k hk => by
    rcases hk with hk | hk
    · exact .inl hk
    · have h1 : W.heap.size ≤ (w1.alloc (.cells #[.slice A1 (typesOf g nm).length c1] 26)).heap.size := HP2.out.size
      exact .inr ⟨by omega, by have := hk.2; simpa [World.setCell] using this⟩⟩⟩
  have hU3 : As (Upd M w (w2.setCell ⟨mb, 0, none⟩ (.slice A2 (s1.length + 1) c2))) := ⟨Upd.trans (HPd.out.mono (fun _ _ h => h.elim)) (Upd.trans (HP2.out.mono (S' := M) (fun _ _ h => h.elim)) hu3 (fun _ _ h => h)) (fun _ _ h => h)⟩
  have HWW : As (W.heap.size ≤ (w1.alloc (.cells #[.slice A1 (typesOf g nm).length c1] 26)).heap.size) := ⟨HP2.out.size⟩
  generalize hw3 : w2.setCell ⟨mb, 0, none⟩ (.slice A2 (s1.length + 1) c2) = w3 at *
  clear hw3 hu3 HM3 HA1 HA2 HA3 HO HY HP2 HW3 HS0 HSK
  have HM3 := As.mk hm3
  have HB3 := As.mk hrb3
  have q0 : w3.cell? ⟨mb, 1, none⟩ = some fv := by unfold World.cell?; simp only [hm3.blk]; rfl
  obtain ⟨i0, hi, hz0, hz1, hz2⟩ := info_parts slice_info
  clear hm3 hrb3
  have hsl2 : s2.length ≤ 1000 := by omega
  go_wp2_with (at_builtin; refine wpList_append_own_at _ rfl _ _ 65 rfl 0 26 i0 (.slice none 0 0) 1 24 Try.underlying65 hi hz0 hz1 hz2 rfl (by decide) _ _ _ rfl (HM3.out.foll.own.alloc _) ⟨w3.heap.size, 0, none⟩ 1 1 [.slice none 0 0] rfl rfl (cell_one_new _ _ _) (by simp [Value.oneCell']) (by unfold maxLen; omega) (by omega) (Nat.zero_le _) ?_; intro v2 w4 ho2 hg2 _ hat2; obtain ⟨g2, cap2, rfl, _, hg2l⟩ := ho2.form (by omega); apply As.out)
  refine ⟨?_⟩
  have hU4 : Upd (fun k => fv.ownBlock = some k) w3 w4 := Upd.grown1 (World.grownBy.trans (World.grownBy_alloc w3 _ _) hg2) (fun k hk => hk)
  obtain ⟨hm5, hu5⟩ := Mach.foll1 HM3.out ho2 hU4 (hat2.imp id (fun h => ⟨_, h, by simp⟩))
  have n1 : ¬ fv.ownBlock = some mb := own_ne_block HM3.out.foll.own HM3.out.blk (by decide)
  have n2 : ¬ fv.ownBlock = some (w.heap.size + 1) := fun h => by
    rcases HM3.out.foll.inM _ h with h | h
    · have := (HM.out.low _ h).2; omega
    · have h9 : W.heap.size ≤ w.heap.size + 1 := Nat.le_trans HWW.out h.1
      omega
  have hmb4 : w4.heap[mb]? = some (.cells #[.slice A2 (s1.length + 1) c2, fv, b0, b1, b2] 69 (0, 0)) := by rw [hU4.block mb (HM3.out.low mb HM3.out.mbM).2 n1]; exact HM3.out.blk
  have hrb4 : w4.heap[w.heap.size + 1]? = some (.cells #[.bool false, .slice none 0 0, .slice none 0 0] 67 (0, 0)) := by rw [hU4.block _ (by omega) n2]; exact HB3.out
  have c0 : w4.cell? ⟨mb, 0, none⟩ = some (.slice A2 (s1.length + 1) c2) := by unfold World.cell?; simp only [hmb4]; rfl
  have c1' : w4.cell? ⟨mb, 1, none⟩ = some fv := by unfold World.cell?; simp only [hmb4]; rfl
  have f1 : w4.frozen? ⟨mb, 1, none⟩ = false := by simp [World.frozen?, hmb4]
  have r0 : w4.cell? ⟨w.heap.size + 1, 0, none⟩ = some (.bool false) := by unfold World.cell?; simp only [hrb4]; rfl
  have r1 : w4.cell? ⟨w.heap.size + 1, 1, none⟩ = some (.slice none 0 0) := by unfold World.cell?; simp only [hrb4]; rfl
  have r2 : w4.cell? ⟨w.heap.size + 1, 2, none⟩ = some (.slice none 0 0) := by unfold World.cell?; simp only [hrb4]; rfl
  have e0 : w4.frozen? ⟨w.heap.size + 1, 0, none⟩ = false := by simp [World.frozen?, hrb4]
  have e1 : w4.frozen? ⟨w.heap.size + 1, 1, none⟩ = false := by simp [World.frozen?, hrb4]
  have e2 : w4.frozen? ⟨w.heap.size + 1, 2, none⟩ = false := by simp [World.frozen?, hrb4]
  have hmr : mb ≠ w.heap.size + 1 := by omega
  have hmr2 : w.heap.size + 1 ≠ mb := by omega
  have hml4 := (Array.getElem?_eq_some_iff.1 hmb4).1
  have hrl4 := (Array.getElem?_eq_some_iff.1 hrb4).1
  have HM5 := As.mk hm5
  have HU5 := As.mk hu5
  have HR4 := As.mk hrb4
  have HG2 := As.mk hU4.size
  clear hm5 hu5 hrb4 hmb4 hU4 ho2 hg2 hat2 q0 hi hz0 hz1 hz2
  go_wp2
  have hset := set3 (w := w4.setCell ⟨mb, 1, none⟩ (.slice (some ⟨g2, 0, none⟩) (s2.length + 1) cap2)) (rb := w.heap.size + 1) ((Below.heap_setCell _ _ _ _ hmr2).trans HR4.out) (.bool false) (.slice (some ⟨w4.heap.size, 0, none⟩) 1 1) (.slice (some ⟨w4.heap.size, 0, none⟩) 1 1)
  have hsu := set3_upd (w4.setCell ⟨mb, 1, none⟩ (.slice (some ⟨g2, 0, none⟩) (s2.length + 1) cap2)) (w.heap.size + 1) (.bool false) (.slice (some ⟨w4.heap.size, 0, none⟩) 1 1) (.slice (some ⟨w4.heap.size, 0, none⟩) 1 1)
  have hM5 := HM5.out
  have hU5 := HU5.out
  rw [hsl0] at hset hsu hM5 hU5
  have hM3l : ∀ k, (M k ∨ ((w1.alloc (.cells #[.slice A1 (typesOf g nm).length c1] 26)).heap.size ≤ k ∧ k < w2.heap.size)) → k < w3.heap.size := fun k hk => (HM3.out.low k hk).2
  have hw34 := HG2.out
  have hMr : ¬ ((M (w.heap.size + 1) ∨ ((w1.alloc (.cells #[.slice A1 (typesOf g nm).length c1] 26)).heap.size ≤ w.heap.size + 1 ∧ w.heap.size + 1 < w2.heap.size)) ∨ (w3.heap.size ≤ w.heap.size + 1 ∧ w.heap.size + 1 < w4.heap.size)) := by
    rintro ((h | h) | h)
    · have := (HM.out.low _ h).2; omega
    · have h9 : W.heap.size ≤ w.heap.size + 1 := Nat.le_trans HWW.out h.1
      omega
    · omega
  have hB2 : B ≤ w.heap.size + 1 := by omega
  generalize hw5 : ((((w4.setCell ⟨mb, 1, none⟩ (.slice (some ⟨g2, 0, none⟩) (s1.length + 1) cap2)).setCell ⟨w.heap.size + 1, 0, none⟩ (.bool false)).setCell ⟨w.heap.size + 1, 1, none⟩ (.slice (some ⟨w4.heap.size, 0, none⟩) 1 1)).setCell ⟨w.heap.size + 1, 2, none⟩ (.slice (some ⟨w4.heap.size, 0, none⟩) 1 1)) = w5 at *
  have hs5 : w5.heap.size = w4.heap.size := by subst hw5; simp [World.setCell]
  have hnew : (w5.alloc (.cells #[.int .i64 s1.length] 3)).heap[w4.heap.size]? = some (.cells #[.int .i64 s1.length] 3) := hs5 ▸ heap_alloc_new w5 _
  refine build_ret (rb := w.heap.size + 1) rfl ((Below.heap_alloc w5 _ _ (by omega)).trans hset) rfl ?_
  rw [HV.out]
  have hm6 := (hM5.upd hsu (fun k _ hk => by subst hk; exact ⟨hB2, hMr⟩)).pure (Upd.alloc1 (fun _ => False) w5 (.cells #[.int .i64 s1.length] 3))
  have hrow : intR.row (w5.alloc (.cells #[.int .i64 s1.length] 3)) (fun k => w.heap.size ≤ k ∧ ¬ ((M k ∨ ((w1.alloc (.cells #[.slice A1 (typesOf g nm).length c1] 26)).heap.size ≤ k ∧ k < w2.heap.size)) ∨ (w3.heap.size ≤ k ∧ k < w4.heap.size))) (some ⟨w4.heap.size, 0, none⟩) [(s1.length : Int)] := by
    refine Rp.row_of_block hnew ⟨by omega, ?_⟩ (Reps.single rfl rfl)
    rintro (h | h)
    · have := hM3l _ h; omega
    · omega
  refine ⟨some ⟨w4.heap.size, 0, none⟩, 1, some ⟨w4.heap.size, 0, none⟩, 1, _, _, _, _, rfl, hm6, ⟨fun k hk => .inl (.inl hk), fun k hk => ?_⟩, hrow, hrow, ?_⟩
  · rcases hk with hk | hk
    · rcases hg3.out.2 k hk with hk | hk
      · exact .inl hk
      · exact .inr ⟨hk.1, by simp; omega⟩
    · exact .inr ⟨by omega, by simp; omega⟩
  · have u1 : Upd (fun k => (M k ∨ ((w1.alloc (.cells #[.slice A1 (typesOf g nm).length c1] 26)).heap.size ≤ k ∧ k < w2.heap.size)) ∨ k = w.heap.size + 1) w3 (w5.alloc (.cells #[.int .i64 s1.length] 3)) :=
      Upd.trans (hU5.mono (fun _ _ h => .inl h)) ((hsu.mono (S' := fun k => (M k ∨ ((w1.alloc (.cells #[.slice A1 (typesOf g nm).length c1] 26)).heap.size ≤ k ∧ k < w2.heap.size)) ∨ k = w.heap.size + 1) (fun _ _ h => .inr h)).alloc _) (fun k _ h => h)
    refine Upd.trans hU3.out u1 (fun k hk h => ?_)
    rcases h with h | rfl
    · rcases hg3.out.2 k h with h | h
      · exact h
      · omega
    · omega
end Go.Proofs.Ytchgeaklaeoplaa
