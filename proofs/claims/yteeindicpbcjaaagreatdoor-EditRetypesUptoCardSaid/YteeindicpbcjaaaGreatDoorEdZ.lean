/- step.Apply of nothing at any document. -/
import Derived.Test.YteeindicpbcjaaaGreatDoorEdAw
namespace Go.Proofs.YteeindicpbcjaaaGreatDoor
open Go.RowKit
set_option linter.unusedVariables false
set_option linter.unusedSimpArgs false

set_option maxRecDepth 100000 in
set_option maxHeartbeats 4000000 in
theorem do_zero_some {w : World} {a : Addr} {c : Nat} :
    Calls Tryz.prog 43 #[.slice (some a) 0 c, step0] w (Fresh w []) := by
  have hbox := Upd.alloc1 (fun _ => False) w (.cells #[.int .i64 0, .int .i64 0, .int .i64 0, .int .i64 0, .int .i64 0, .int .i64 0, .slice none 0 0, .int .i64 0] 27)
  have hblk := heap_alloc_new w (.cells #[.int .i64 0, .int .i64 0, .int .i64 0, .int .i64 0, .int .i64 0, .int .i64 0, .slice none 0 0, .int .i64 0] 27)
  have HT := As.mk (fun (W : World) (hu : Pure w W) (blk : Nat) (e : TypeId) (fr : Nat × Nat) (A0 A1 A2 : Option Addr) (c0 c1 c2 : Nat) (hblk : W.heap[blk]? = some (.cells #[.slice A0 0 c0, .slice A1 0 c1, .slice A2 0 c2] e fr)) => tokens3 (x0 := []) (x1 := []) (x2 := []) (F0 := fun _ => True) (F1 := fun _ => True) (F2 := fun _ => True) (by simp) W hu (blk := blk) (e := e) (fr := fr) hblk ⟨A0, c0, rfl, Nat.zero_le _, .inl rfl⟩ ⟨A1, c1, rfl, Nat.zero_le _, .inl rfl⟩ ⟨A2, c2, rfl, Nat.zero_le _, .inl rfl⟩)
  simp only [List.nil_append, List.length_nil] at HT
  have HB := As.mk hbox
  have HBK := As.mk (fun (cs : Array Value) (T : TypeId) => (by
    have h := heap_alloc_new (w.alloc (.cells #[.int .i64 0, .int .i64 0, .int .i64 0, .int .i64 0, .int .i64 0, .int .i64 0, .slice none 0 0, .int .i64 0] 27)) (.cells cs T)
    rw [World.size_alloc] at h
    exact h : (((w.alloc (.cells #[.int .i64 0, .int .i64 0, .int .i64 0, .int .i64 0, .int .i64 0, .int .i64 0, .slice none 0 0, .int .i64 0] 27)).alloc (.cells cs T)).drew).heap[w.heap.size + 1]? = some (.cells cs T (0, 0))))
  have q0 : ∀ v, Pure (w.alloc (.cells #[.int .i64 0, .int .i64 0, .int .i64 0, .int .i64 0, .int .i64 0, .int .i64 0, .slice none 0 0, .int .i64 0] 27)) v → v.cell? ⟨w.heap.size, 1, none⟩ = some (.int .i64 0) ∧ v.cell? ⟨w.heap.size, 2, none⟩ = some (.int .i64 0) ∧ v.cell? ⟨w.heap.size, 6, none⟩ = some (.slice none 0 0) := fun v hu => by
    have := (hu.block w.heap.size (by simp) (fun h => h)).trans hblk
    refine ⟨?_, ?_, ?_⟩ <;> (unfold World.cell?; simp only [this]; rfl)
  have HQ := As.mk q0
  have i2 : (0 : Int) ≤ ((c : Nat) : Int) := by omega
  clear hbox hblk q0
  go_enter Tryz.func43, Tryz.ntmps43
  go_wp2
  refine wp_region_T (P := Tryz.prog) (fun v => v.cell? ⟨w.heap.size, 1, none⟩ = some (.int .i64 0) ∧ v.cell? ⟨w.heap.size, 2, none⟩ = some (.int .i64 0) ∧ v.cell? ⟨w.heap.size, 6, none⟩ = some (.slice none 0 0)) 12 (by kernel_rfl) ?_ (fun hHeld => ?_)
  · first | exact HQ.out _ ((Upd.refl _ _).drew) | exact HQ.out _ (((Upd.refl _ _).alloc _).drew) | exact HQ.out _ ((((Upd.refl _ _).alloc _).drew).trans hu3 (fun _ _ h => h))
  refine wpAnyT_take (i := 0) (oi := { dst := (some 12), op := (Go.Op.move (Go.Operand.tmp 0)), type := 22, pos := "step.go:58", after := #[], guard := none }) (v := ?_) rfl (by kernel_rfl) (by kernel_rfl) (by kernel_rfl) (by kernel_rfl) (fun _ _ _ h => h) (Or.inl ⟨by rfl, (by intro w hSw; (try dsimp only at hSw); go_simp; try with_reducible rfl)⟩) (by assumption) ?_
  (try simp only [Act.put, List.setIfInBounds_toArray, List.set_cons_zero, List.set_cons_succ])
  refine wpAnyT_take (i := 1) (oi := { dst := (some 13), op := (Go.Op.fieldAddr 27 (Go.Operand.tmp 3) 1), type := 0, pos := "step.go:58", after := #[], guard := none }) (v := ?_) rfl (by kernel_rfl) (by kernel_rfl) (by kernel_rfl) (by kernel_rfl) (fun _ _ _ h => h) (Or.inl ⟨by rfl, (by intro w hSw; (try dsimp only at hSw); go_simp; try with_reducible rfl)⟩) (by assumption) ?_
  (try simp only [Act.put, List.setIfInBounds_toArray, List.set_cons_zero, List.set_cons_succ])
  refine wpAnyT_take (i := 2) (oi := { dst := (some 14), op := (Go.Op.load 3 (Go.Operand.tmp 13)), type := 3, pos := "step.go:58", after := #[{ on := 1, ground := Go.Ground.data }], guard := none }) (v := ?_) rfl (by kernel_rfl) (by kernel_rfl) (by kernel_rfl) (by kernel_rfl) (fun _ _ _ h => h) (Or.inl ⟨by rfl, (by intro w hSw; (try dsimp only at hSw); go_simp; try with_reducible rfl)⟩) (by assumption) ?_
  (try simp only [Act.put, List.setIfInBounds_toArray, List.set_cons_zero, List.set_cons_succ])
  refine wpAnyT_take (i := 3) (oi := { dst := (some 15), op := (Go.Op.slice 22 (Go.Operand.tmp 12) none (some (Go.Operand.tmp 14)) none), type := 22, pos := "step.go:58", after := #[{ on := 0, ground := Go.Ground.data }, { on := 2, ground := Go.Ground.data }], guard := none }) (v := ?_) rfl (by kernel_rfl) (by kernel_rfl) (by kernel_rfl) (by kernel_rfl) (fun _ _ _ h => h) (Or.inl ⟨by rfl, (by intro w hSw; (try dsimp only at hSw); go_simp; try with_reducible rfl)⟩) (by assumption) ?_
  (try simp only [Act.put, List.setIfInBounds_toArray, List.set_cons_zero, List.set_cons_succ])
  refine wpAnyT_take (i := 4) (oi := { dst := (some 16), op := (Go.Op.fieldAddr 27 (Go.Operand.tmp 3) 6), type := 0, pos := "step.go:58", after := #[], guard := none }) (v := ?_) rfl (by kernel_rfl) (by kernel_rfl) (by kernel_rfl) (by kernel_rfl) (fun _ _ _ h => h) (Or.inl ⟨by rfl, (by intro w hSw; (try dsimp only at hSw); go_simp; try with_reducible rfl)⟩) (by assumption) ?_
  (try simp only [Act.put, List.setIfInBounds_toArray, List.set_cons_zero, List.set_cons_succ])
  refine wpAnyT_take (i := 5) (oi := { dst := (some 17), op := (Go.Op.load 22 (Go.Operand.tmp 16)), type := 22, pos := "step.go:58", after := #[{ on := 4, ground := Go.Ground.data }], guard := none }) (v := ?_) rfl (by kernel_rfl) (by kernel_rfl) (by kernel_rfl) (by kernel_rfl) (fun _ _ _ h => h) (Or.inl ⟨by rfl, (by intro w hSw; (try dsimp only at hSw); go_simp; try with_reducible rfl)⟩) (by assumption) ?_
  (try simp only [Act.put, List.setIfInBounds_toArray, List.set_cons_zero, List.set_cons_succ])
  refine wpAnyT_take (i := 6) (oi := { dst := (some 18), op := (Go.Op.move (Go.Operand.tmp 0)), type := 22, pos := "step.go:58", after := #[], guard := none }) (v := ?_) rfl (by kernel_rfl) (by kernel_rfl) (by kernel_rfl) (by kernel_rfl) (fun _ _ _ h => h) (Or.inl ⟨by rfl, (by intro w hSw; (try dsimp only at hSw); go_simp; try with_reducible rfl)⟩) (by assumption) ?_
  (try simp only [Act.put, List.setIfInBounds_toArray, List.set_cons_zero, List.set_cons_succ])
  refine wpAnyT_take (i := 7) (oi := { dst := (some 19), op := (Go.Op.fieldAddr 27 (Go.Operand.tmp 3) 2), type := 0, pos := "step.go:58", after := #[], guard := none }) (v := ?_) rfl (by kernel_rfl) (by kernel_rfl) (by kernel_rfl) (by kernel_rfl) (fun _ _ _ h => h) (Or.inl ⟨by rfl, (by intro w hSw; (try dsimp only at hSw); go_simp; try with_reducible rfl)⟩) (by assumption) ?_
  (try simp only [Act.put, List.setIfInBounds_toArray, List.set_cons_zero, List.set_cons_succ])
  refine wpAnyT_take (i := 8) (oi := { dst := (some 20), op := (Go.Op.load 3 (Go.Operand.tmp 19)), type := 3, pos := "step.go:58", after := #[{ on := 7, ground := Go.Ground.data }], guard := none }) (v := ?_) rfl (by kernel_rfl) (by kernel_rfl) (by kernel_rfl) (by kernel_rfl) (fun _ _ _ h => h) (Or.inl ⟨by rfl, (by intro w hSw; (try dsimp only at hSw); go_simp; try with_reducible rfl)⟩) (by assumption) ?_
  (try simp only [Act.put, List.setIfInBounds_toArray, List.set_cons_zero, List.set_cons_succ])
  refine wpAnyT_take (i := 9) (oi := { dst := (some 21), op := (Go.Op.slice 22 (Go.Operand.tmp 18) (some (Go.Operand.tmp 20)) none none), type := 22, pos := "step.go:58", after := #[{ on := 6, ground := Go.Ground.data }, { on := 8, ground := Go.Ground.data }], guard := none }) (v := ?_) rfl (by kernel_rfl) (by kernel_rfl) (by kernel_rfl) (by kernel_rfl) (fun _ _ _ h => h) (Or.inl ⟨by rfl, (by intro w hSw; (try dsimp only at hSw); go_simp; try with_reducible rfl)⟩) (by assumption) ?_
  (try simp only [Act.put, List.setIfInBounds_toArray, List.set_cons_zero, List.set_cons_succ])
  refine wpAnyT_one (i := 10) (o := { dst := (some 22), op := (Go.Op.buildSlice 164 3 #[(0, (Go.Operand.tmp 15)), (1, (Go.Operand.tmp 17)), (2, (Go.Operand.tmp 21))]), type := 164, pos := "step.go:58", after := #[{ on := 3, ground := Go.Ground.data }, { on := 5, ground := Go.Ground.data }, { on := 9, ground := Go.Ground.data }], guard := none }) (by kernel_rfl) rfl (fun K hK => ?_)
  go_simp
  refine hK.out _ _ (fun _ => by first | exact HQ.out _ ((Upd.refl _ _).drew) | exact HQ.out _ (((Upd.refl _ _).alloc _).drew) | exact HQ.out _ ((((Upd.refl _ _).alloc _).drew).trans hu3 (fun _ _ h => h))) (fun hHeld => ?_)
  replace hHeld := hHeld (by decide)
  clear hK K
  (try simp only [Act.put, List.setIfInBounds_toArray, List.set_cons_zero, List.set_cons_succ])
  refine wpAnyT_one (i := 11) (o := { dst := (some 23), op := (Go.Op.call { callee := (Go.Callee.value (Go.Operand.func 71)), args := #[(Go.Operand.tmp 22)], argTypes := #[164] }), type := 22, pos := "step.go:58", after := #[{ on := 10, ground := Go.Ground.data }], guard := none }) (by kernel_rfl) rfl (fun K hK => ?_)
  go_simp
  (go_at_call 71; refine (HT.out _ ((HB.out.alloc _).drew) _ _ _ _ _ _ _ _ _ (HBK.out _ _)).mono ?_; rintro e w3 ⟨⟨B3, rfl, hrow3⟩, hu3⟩)
  refine hK.out _ _ (fun _ => by first | exact HQ.out _ ((Upd.refl _ _).drew) | exact HQ.out _ (((Upd.refl _ _).alloc _).drew) | exact HQ.out _ ((((Upd.refl _ _).alloc _).drew).trans hu3 (fun _ _ h => h))) (fun hHeld => ?_)
  replace hHeld := hHeld (by decide)
  clear hK K
  (try simp only [Act.put, List.setIfInBounds_toArray, List.set_cons_zero, List.set_cons_succ])
  refine wpAnyT_one (i := 12) (o := { dst := (some 4), op := (Go.Op.assign (Go.Operand.tmp 23)), type := 22, pos := "step.go:58", after := #[{ on := 11, ground := Go.Ground.data }, { on := 11, ground := Go.Ground.chain }, { on := 0, ground := Go.Ground.phase }, { on := 1, ground := Go.Ground.phase }, { on := 2, ground := Go.Ground.phase }, { on := 3, ground := Go.Ground.phase }, { on := 4, ground := Go.Ground.phase }, { on := 5, ground := Go.Ground.phase }, { on := 6, ground := Go.Ground.phase }, { on := 7, ground := Go.Ground.phase }, { on := 8, ground := Go.Ground.phase }, { on := 9, ground := Go.Ground.phase }, { on := 10, ground := Go.Ground.phase }, { on := 11, ground := Go.Ground.phase }], guard := none }) (by kernel_rfl) rfl (fun K hK => ?_)
  go_simp
  refine hK.out _ _ (fun h => absurd rfl h) (fun hHeld => ?_)
  clear hK K
  (try simp only [Act.put, List.setIfInBounds_toArray, List.set_cons_zero, List.set_cons_succ])
  refine wpAnyT_done (by kernel_rfl) ?_ _
  go_wp2
  all_goals go_ret
  all_goals exact Fresh.of ((HB.out.alloc _).drew) rfl (by first | (simp; done) | (simp; omega)) hrow3 hu3
set_option maxRecDepth 100000 in
set_option maxHeartbeats 4000000 in
theorem do_zero_none {w : World} {c : Nat} :
    Calls Tryz.prog 43 #[.slice none 0 c, step0] w (Fresh w []) := by
  have hbox := Upd.alloc1 (fun _ => False) w (.cells #[.int .i64 0, .int .i64 0, .int .i64 0, .int .i64 0, .int .i64 0, .int .i64 0, .slice none 0 0, .int .i64 0] 27)
  have hblk := heap_alloc_new w (.cells #[.int .i64 0, .int .i64 0, .int .i64 0, .int .i64 0, .int .i64 0, .int .i64 0, .slice none 0 0, .int .i64 0] 27)
  have HT := As.mk (fun (W : World) (hu : Pure w W) (blk : Nat) (e : TypeId) (fr : Nat × Nat) (A0 A1 A2 : Option Addr) (c0 c1 c2 : Nat) (hblk : W.heap[blk]? = some (.cells #[.slice A0 0 c0, .slice A1 0 c1, .slice A2 0 c2] e fr)) => tokens3 (x0 := []) (x1 := []) (x2 := []) (F0 := fun _ => True) (F1 := fun _ => True) (F2 := fun _ => True) (by simp) W hu (blk := blk) (e := e) (fr := fr) hblk ⟨A0, c0, rfl, Nat.zero_le _, .inl rfl⟩ ⟨A1, c1, rfl, Nat.zero_le _, .inl rfl⟩ ⟨A2, c2, rfl, Nat.zero_le _, .inl rfl⟩)
  simp only [List.nil_append, List.length_nil] at HT
  have HB := As.mk hbox
  have HBK := As.mk (fun (cs : Array Value) (T : TypeId) => (by
    have h := heap_alloc_new (w.alloc (.cells #[.int .i64 0, .int .i64 0, .int .i64 0, .int .i64 0, .int .i64 0, .int .i64 0, .slice none 0 0, .int .i64 0] 27)) (.cells cs T)
    rw [World.size_alloc] at h
    exact h : (((w.alloc (.cells #[.int .i64 0, .int .i64 0, .int .i64 0, .int .i64 0, .int .i64 0, .int .i64 0, .slice none 0 0, .int .i64 0] 27)).alloc (.cells cs T)).drew).heap[w.heap.size + 1]? = some (.cells cs T (0, 0))))
  have q0 : ∀ v, Pure (w.alloc (.cells #[.int .i64 0, .int .i64 0, .int .i64 0, .int .i64 0, .int .i64 0, .int .i64 0, .slice none 0 0, .int .i64 0] 27)) v → v.cell? ⟨w.heap.size, 1, none⟩ = some (.int .i64 0) ∧ v.cell? ⟨w.heap.size, 2, none⟩ = some (.int .i64 0) ∧ v.cell? ⟨w.heap.size, 6, none⟩ = some (.slice none 0 0) := fun v hu => by
    have := (hu.block w.heap.size (by simp) (fun h => h)).trans hblk
    refine ⟨?_, ?_, ?_⟩ <;> (unfold World.cell?; simp only [this]; rfl)
  have HQ := As.mk q0
  have i2 : (0 : Int) ≤ ((c : Nat) : Int) := by omega
  clear hbox hblk q0
  go_enter Tryz.func43, Tryz.ntmps43
  go_wp2
  refine wp_region_T (P := Tryz.prog) (fun v => v.cell? ⟨w.heap.size, 1, none⟩ = some (.int .i64 0) ∧ v.cell? ⟨w.heap.size, 2, none⟩ = some (.int .i64 0) ∧ v.cell? ⟨w.heap.size, 6, none⟩ = some (.slice none 0 0)) 12 (by kernel_rfl) ?_ (fun hHeld => ?_)
  · first | exact HQ.out _ ((Upd.refl _ _).drew) | exact HQ.out _ (((Upd.refl _ _).alloc _).drew) | exact HQ.out _ ((((Upd.refl _ _).alloc _).drew).trans hu3 (fun _ _ h => h))
  refine wpAnyT_take (i := 0) (oi := { dst := (some 12), op := (Go.Op.move (Go.Operand.tmp 0)), type := 22, pos := "step.go:58", after := #[], guard := none }) (v := ?_) rfl (by kernel_rfl) (by kernel_rfl) (by kernel_rfl) (by kernel_rfl) (fun _ _ _ h => h) (Or.inl ⟨by rfl, (by intro w hSw; (try dsimp only at hSw); go_simp; try with_reducible rfl)⟩) (by assumption) ?_
  (try simp only [Act.put, List.setIfInBounds_toArray, List.set_cons_zero, List.set_cons_succ])
  refine wpAnyT_take (i := 1) (oi := { dst := (some 13), op := (Go.Op.fieldAddr 27 (Go.Operand.tmp 3) 1), type := 0, pos := "step.go:58", after := #[], guard := none }) (v := ?_) rfl (by kernel_rfl) (by kernel_rfl) (by kernel_rfl) (by kernel_rfl) (fun _ _ _ h => h) (Or.inl ⟨by rfl, (by intro w hSw; (try dsimp only at hSw); go_simp; try with_reducible rfl)⟩) (by assumption) ?_
  (try simp only [Act.put, List.setIfInBounds_toArray, List.set_cons_zero, List.set_cons_succ])
  refine wpAnyT_take (i := 2) (oi := { dst := (some 14), op := (Go.Op.load 3 (Go.Operand.tmp 13)), type := 3, pos := "step.go:58", after := #[{ on := 1, ground := Go.Ground.data }], guard := none }) (v := ?_) rfl (by kernel_rfl) (by kernel_rfl) (by kernel_rfl) (by kernel_rfl) (fun _ _ _ h => h) (Or.inl ⟨by rfl, (by intro w hSw; (try dsimp only at hSw); go_simp; try with_reducible rfl)⟩) (by assumption) ?_
  (try simp only [Act.put, List.setIfInBounds_toArray, List.set_cons_zero, List.set_cons_succ])
  refine wpAnyT_take (i := 3) (oi := { dst := (some 15), op := (Go.Op.slice 22 (Go.Operand.tmp 12) none (some (Go.Operand.tmp 14)) none), type := 22, pos := "step.go:58", after := #[{ on := 0, ground := Go.Ground.data }, { on := 2, ground := Go.Ground.data }], guard := none }) (v := ?_) rfl (by kernel_rfl) (by kernel_rfl) (by kernel_rfl) (by kernel_rfl) (fun _ _ _ h => h) (Or.inl ⟨by rfl, (by intro w hSw; (try dsimp only at hSw); go_simp; try with_reducible rfl)⟩) (by assumption) ?_
  (try simp only [Act.put, List.setIfInBounds_toArray, List.set_cons_zero, List.set_cons_succ])
  refine wpAnyT_take (i := 4) (oi := { dst := (some 16), op := (Go.Op.fieldAddr 27 (Go.Operand.tmp 3) 6), type := 0, pos := "step.go:58", after := #[], guard := none }) (v := ?_) rfl (by kernel_rfl) (by kernel_rfl) (by kernel_rfl) (by kernel_rfl) (fun _ _ _ h => h) (Or.inl ⟨by rfl, (by intro w hSw; (try dsimp only at hSw); go_simp; try with_reducible rfl)⟩) (by assumption) ?_
  (try simp only [Act.put, List.setIfInBounds_toArray, List.set_cons_zero, List.set_cons_succ])
  refine wpAnyT_take (i := 5) (oi := { dst := (some 17), op := (Go.Op.load 22 (Go.Operand.tmp 16)), type := 22, pos := "step.go:58", after := #[{ on := 4, ground := Go.Ground.data }], guard := none }) (v := ?_) rfl (by kernel_rfl) (by kernel_rfl) (by kernel_rfl) (by kernel_rfl) (fun _ _ _ h => h) (Or.inl ⟨by rfl, (by intro w hSw; (try dsimp only at hSw); go_simp; try with_reducible rfl)⟩) (by assumption) ?_
  (try simp only [Act.put, List.setIfInBounds_toArray, List.set_cons_zero, List.set_cons_succ])
  refine wpAnyT_take (i := 6) (oi := { dst := (some 18), op := (Go.Op.move (Go.Operand.tmp 0)), type := 22, pos := "step.go:58", after := #[], guard := none }) (v := ?_) rfl (by kernel_rfl) (by kernel_rfl) (by kernel_rfl) (by kernel_rfl) (fun _ _ _ h => h) (Or.inl ⟨by rfl, (by intro w hSw; (try dsimp only at hSw); go_simp; try with_reducible rfl)⟩) (by assumption) ?_
  (try simp only [Act.put, List.setIfInBounds_toArray, List.set_cons_zero, List.set_cons_succ])
  refine wpAnyT_take (i := 7) (oi := { dst := (some 19), op := (Go.Op.fieldAddr 27 (Go.Operand.tmp 3) 2), type := 0, pos := "step.go:58", after := #[], guard := none }) (v := ?_) rfl (by kernel_rfl) (by kernel_rfl) (by kernel_rfl) (by kernel_rfl) (fun _ _ _ h => h) (Or.inl ⟨by rfl, (by intro w hSw; (try dsimp only at hSw); go_simp; try with_reducible rfl)⟩) (by assumption) ?_
  (try simp only [Act.put, List.setIfInBounds_toArray, List.set_cons_zero, List.set_cons_succ])
  refine wpAnyT_take (i := 8) (oi := { dst := (some 20), op := (Go.Op.load 3 (Go.Operand.tmp 19)), type := 3, pos := "step.go:58", after := #[{ on := 7, ground := Go.Ground.data }], guard := none }) (v := ?_) rfl (by kernel_rfl) (by kernel_rfl) (by kernel_rfl) (by kernel_rfl) (fun _ _ _ h => h) (Or.inl ⟨by rfl, (by intro w hSw; (try dsimp only at hSw); go_simp; try with_reducible rfl)⟩) (by assumption) ?_
  (try simp only [Act.put, List.setIfInBounds_toArray, List.set_cons_zero, List.set_cons_succ])
  refine wpAnyT_take (i := 9) (oi := { dst := (some 21), op := (Go.Op.slice 22 (Go.Operand.tmp 18) (some (Go.Operand.tmp 20)) none none), type := 22, pos := "step.go:58", after := #[{ on := 6, ground := Go.Ground.data }, { on := 8, ground := Go.Ground.data }], guard := none }) (v := ?_) rfl (by kernel_rfl) (by kernel_rfl) (by kernel_rfl) (by kernel_rfl) (fun _ _ _ h => h) (Or.inl ⟨by rfl, (by intro w hSw; (try dsimp only at hSw); go_simp; try with_reducible rfl)⟩) (by assumption) ?_
  (try simp only [Act.put, List.setIfInBounds_toArray, List.set_cons_zero, List.set_cons_succ])
  refine wpAnyT_one (i := 10) (o := { dst := (some 22), op := (Go.Op.buildSlice 164 3 #[(0, (Go.Operand.tmp 15)), (1, (Go.Operand.tmp 17)), (2, (Go.Operand.tmp 21))]), type := 164, pos := "step.go:58", after := #[{ on := 3, ground := Go.Ground.data }, { on := 5, ground := Go.Ground.data }, { on := 9, ground := Go.Ground.data }], guard := none }) (by kernel_rfl) rfl (fun K hK => ?_)
  go_simp
  refine hK.out _ _ (fun _ => by first | exact HQ.out _ ((Upd.refl _ _).drew) | exact HQ.out _ (((Upd.refl _ _).alloc _).drew) | exact HQ.out _ ((((Upd.refl _ _).alloc _).drew).trans hu3 (fun _ _ h => h))) (fun hHeld => ?_)
  replace hHeld := hHeld (by decide)
  clear hK K
  (try simp only [Act.put, List.setIfInBounds_toArray, List.set_cons_zero, List.set_cons_succ])
  refine wpAnyT_one (i := 11) (o := { dst := (some 23), op := (Go.Op.call { callee := (Go.Callee.value (Go.Operand.func 71)), args := #[(Go.Operand.tmp 22)], argTypes := #[164] }), type := 22, pos := "step.go:58", after := #[{ on := 10, ground := Go.Ground.data }], guard := none }) (by kernel_rfl) rfl (fun K hK => ?_)
  go_simp
  (go_at_call 71; refine (HT.out _ ((HB.out.alloc _).drew) _ _ _ _ _ _ _ _ _ (HBK.out _ _)).mono ?_; rintro e w3 ⟨⟨B3, rfl, hrow3⟩, hu3⟩)
  refine hK.out _ _ (fun _ => by first | exact HQ.out _ ((Upd.refl _ _).drew) | exact HQ.out _ (((Upd.refl _ _).alloc _).drew) | exact HQ.out _ ((((Upd.refl _ _).alloc _).drew).trans hu3 (fun _ _ h => h))) (fun hHeld => ?_)
  replace hHeld := hHeld (by decide)
  clear hK K
  (try simp only [Act.put, List.setIfInBounds_toArray, List.set_cons_zero, List.set_cons_succ])
  refine wpAnyT_one (i := 12) (o := { dst := (some 4), op := (Go.Op.assign (Go.Operand.tmp 23)), type := 22, pos := "step.go:58", after := #[{ on := 11, ground := Go.Ground.data }, { on := 11, ground := Go.Ground.chain }, { on := 0, ground := Go.Ground.phase }, { on := 1, ground := Go.Ground.phase }, { on := 2, ground := Go.Ground.phase }, { on := 3, ground := Go.Ground.phase }, { on := 4, ground := Go.Ground.phase }, { on := 5, ground := Go.Ground.phase }, { on := 6, ground := Go.Ground.phase }, { on := 7, ground := Go.Ground.phase }, { on := 8, ground := Go.Ground.phase }, { on := 9, ground := Go.Ground.phase }, { on := 10, ground := Go.Ground.phase }, { on := 11, ground := Go.Ground.phase }], guard := none }) (by kernel_rfl) rfl (fun K hK => ?_)
  go_simp
  refine hK.out _ _ (fun h => absurd rfl h) (fun hHeld => ?_)
  clear hK K
  (try simp only [Act.put, List.setIfInBounds_toArray, List.set_cons_zero, List.set_cons_succ])
  refine wpAnyT_done (by kernel_rfl) ?_ _
  go_wp2
  all_goals go_ret
  all_goals exact Fresh.of ((HB.out.alloc _).drew) rfl (by first | (simp; done) | (simp; omega)) hrow3 hu3
theorem do_zero {w : World} {A : Option Addr} {c : Nat} : Calls Tryz.prog 43 #[.slice A 0 c, step0] w (Fresh w []) := by
  cases A with
  | none => exact do_zero_none
  | some a => exact do_zero_some
/-- Nothing, at any document: an answer, and nothing is changed. -/
theorem Apply_zero {w : World} {F : Nat → Prop} {A : Option Addr} {c : Nat} {l : List Tok} (hr : tokR.row w F A l) (hlc : l.length ≤ c) (hb : l.length ≤ 1048576 * 4) :
    Calls Tryz.prog 16 #[.slice A l.length c, step0] w (fun r w' => (∃ v e, r = .returned (.tuple #[v, .int .i64 e])) ∧ Pure w w') := by
  have main : Calls Tryz.prog 16 #[.slice A l.length c, step0] w (DocR w (stepDo l (repl 0 0 [])) (stepErr l (repl 0 0 []))) := by
    by_cases hne : l = []
    · subst hne
      exact Apply_calls (G := fun _ => True) (B := none) (cb := 0) (s := repl 0 0 []) hr (.inl rfl) hb (by simp [repl]) (fun _ _ _ W hW => do_zero)
    · exact Apply_repl (f := 0) (t := 0) (sl := []) (B := none) (cb := 0) (G := fun _ => True) hne hr hlc hb (.inl rfl) (Nat.le_refl _) (by simp)
  refine main.mono ?_
  rintro r w' ⟨⟨_, B, rfl, _⟩ | ⟨_, rfl⟩, hu⟩
  · exact ⟨⟨_, _, rfl⟩, hu⟩
  · exact ⟨⟨_, _, rfl⟩, hu⟩
end Go.Proofs.YteeindicpbcjaaaGreatDoor
