/- expr.Parse of the empty text, and of a name with one sign. expr: an atom that is a name, a sign behind it. -/
import Derived.Test.YteeindicpbcjaaaGreatDoorExpr
import Derived.Test.YteeindicpbcjaaaGreatDoorHeld
import Derived.WalkSpells
namespace Go.Proofs.YteeindicpbcjaaaGreatDoor
open Go.RowKit
set_option linter.unusedVariables false
set_option linter.unusedSimpArgs false

/-- A text that is read, up to a place. -/
def TB (w : World) (tb : Nat) (s : ByteArray) (k : Nat) : Prop := w.heap[tb]? = some (.cells #[.string s, .int .i64 k] 154 (0, 0))
theorem TB.pure {w w1 : World} {tb : Nat} {s : ByteArray} {k : Nat} (h : TB w tb s k) (hu : Pure w w1) : TB w1 tb s k := (hu.block _ (Array.getElem?_eq_some_iff.1 h).1 (fun h => h)).trans h
theorem TB.cells {w : World} {tb : Nat} {s : ByteArray} {k : Nat} (h : TB w tb s k) : (w.cell? ⟨tb, 0, none⟩ = some (.string s) ∧ w.cell? ⟨tb, 1, none⟩ = some (.int .i64 k)) ∧ w.frozen? ⟨tb, 1, none⟩ = false ∧ tb < w.heap.size := by
  have h' : w.heap[tb]? = some (.cells #[.string s, .int .i64 k] 154 (0, 0)) := h
  refine ⟨⟨?_, ?_⟩, ?_, (Array.getElem?_eq_some_iff.1 h).1⟩
  · unfold World.cell?; simp only [h']; rfl
  · unfold World.cell?; simp only [h']; rfl
  · simp [World.frozen?, h']
theorem TB.set {w : World} {tb : Nat} {s : ByteArray} {k : Nat} (h : TB w tb s k) (m : Nat) : TB (w.setCell ⟨tb, 1, none⟩ (.int .i64 m)) tb s m := by
  have h' : w.heap[tb]? = some (.cells #[.string s, .int .i64 k] 154 (0, 0)) := h
  unfold TB
  simp [World.setCell, Array.getElem?_modify, h']

set_option maxRecDepth 100000 in
set_option maxHeartbeats 4000000 in
theorem next_end {w : World} {tb : Nat} {s : ByteArray} (h : TB w tb s s.size) (hs : s.size ≤ 1000) :
    Calls Tryz.prog 98 #[.pointer (some ⟨tb, 0, none⟩)] w fun r w' => r = .returned (.int .u8 0) ∧ Pure w w' := by
  have HT := As.mk h
  have hlt : ¬ ((s.size : Int) < (s.size : Int)) := by omega
  have hlt2 : decide (s.size < s.size) = false := by simp
  have heq2 : (s.size == s.size) = true := by simp
  clear h
  go_enter Tryz.func98, Tryz.ntmps98
  go_wp2
  go_loopg [] 0 (fun g wr => As (wr = w))
  case atStart => exact ⟨rfl⟩
  case round =>
    obtain rfl := hrel.out
    obtain ⟨⟨c0, c1⟩, f1, htb⟩ := HT.out.cells
    have c0d : wr.drew.cell? ⟨tb, 0, none⟩ = some (.string s) := c0
    have c1d : wr.drew.cell? ⟨tb, 1, none⟩ = some (.int .i64 s.size) := c1
    go_wp2
    refine wp_region_held_drew (S := (fun v => v.cell? ⟨tb, 0, none⟩ = some (.string s) ∧ v.cell? ⟨tb, 1, none⟩ = some (.int .i64 s.size))) (by kernel_rfl) ?_ (fun hHeld => ?_)
    · exact ⟨c0d, c1d⟩
    refine wpAnyH_take (i := 0) (oi := { dst := (some 3), op := (Go.Op.move (Go.Operand.tmp 0)), type := 152, pos := "expr.go:103", after := #[], guard := none }) (v := ?_) rfl (by kernel_rfl) (by kernel_rfl) (by kernel_rfl) (fun _ _ _ h => h) (Or.inl ⟨by rfl, (by intro w hSw; (try dsimp only at hSw); go_simp; try with_reducible rfl)⟩) (by assumption) ?_
    (try simp only [Act.put, List.setIfInBounds_toArray, List.set_cons_zero, List.set_cons_succ])
    refine wpAnyH_take (i := 1) (oi := { dst := (some 4), op := (Go.Op.nilCheck (Go.Operand.tmp 3)), type := 0, pos := "expr.go:103", after := #[{ on := 0, ground := Go.Ground.data }], guard := none }) (v := ?_) rfl (by kernel_rfl) (by kernel_rfl) (by kernel_rfl) (fun _ _ _ h => h) (Or.inl ⟨by rfl, (by intro w hSw; (try dsimp only at hSw); go_simp; try with_reducible rfl)⟩) (by assumption) ?_
    (try simp only [Act.put, List.setIfInBounds_toArray, List.set_cons_zero, List.set_cons_succ])
    refine wpAnyH_take (i := 2) (oi := { dst := (some 5), op := (Go.Op.fieldAddr 154 (Go.Operand.tmp 4) 1), type := 0, pos := "expr.go:103", after := #[{ on := 1, ground := Go.Ground.data }], guard := none }) (v := ?_) rfl (by kernel_rfl) (by kernel_rfl) (by kernel_rfl) (fun _ _ _ h => h) (Or.inl ⟨by rfl, (by intro w hSw; (try dsimp only at hSw); go_simp; try with_reducible rfl)⟩) (by assumption) ?_
    (try simp only [Act.put, List.setIfInBounds_toArray, List.set_cons_zero, List.set_cons_succ])
    refine wpAnyH_take (i := 3) (oi := { dst := (some 6), op := (Go.Op.load 3 (Go.Operand.tmp 5)), type := 3, pos := "expr.go:103", after := #[{ on := 2, ground := Go.Ground.data }], guard := none }) (v := ?_) rfl (by kernel_rfl) (by kernel_rfl) (by kernel_rfl) (fun _ _ _ h => h) (Or.inl ⟨by rfl, (by intro w hSw; (try dsimp only at hSw); go_simp; try with_reducible rfl)⟩) (by assumption) ?_
    (try simp only [Act.put, List.setIfInBounds_toArray, List.set_cons_zero, List.set_cons_succ])
    refine wpAnyH_take (i := 4) (oi := { dst := (some 7), op := (Go.Op.move (Go.Operand.tmp 0)), type := 152, pos := "expr.go:103", after := #[], guard := none }) (v := ?_) rfl (by kernel_rfl) (by kernel_rfl) (by kernel_rfl) (fun _ _ _ h => h) (Or.inl ⟨by rfl, (by intro w hSw; (try dsimp only at hSw); go_simp; try with_reducible rfl)⟩) (by assumption) ?_
    (try simp only [Act.put, List.setIfInBounds_toArray, List.set_cons_zero, List.set_cons_succ])
    refine wpAnyH_take (i := 5) (oi := { dst := (some 8), op := (Go.Op.nilCheck (Go.Operand.tmp 7)), type := 0, pos := "expr.go:103", after := #[{ on := 4, ground := Go.Ground.data }], guard := none }) (v := ?_) rfl (by kernel_rfl) (by kernel_rfl) (by kernel_rfl) (fun _ _ _ h => h) (Or.inl ⟨by rfl, (by intro w hSw; (try dsimp only at hSw); go_simp; try with_reducible rfl)⟩) (by assumption) ?_
    (try simp only [Act.put, List.setIfInBounds_toArray, List.set_cons_zero, List.set_cons_succ])
    refine wpAnyH_take (i := 6) (oi := { dst := (some 9), op := (Go.Op.fieldAddr 154 (Go.Operand.tmp 8) 0), type := 0, pos := "expr.go:103", after := #[{ on := 5, ground := Go.Ground.data }], guard := none }) (v := ?_) rfl (by kernel_rfl) (by kernel_rfl) (by kernel_rfl) (fun _ _ _ h => h) (Or.inl ⟨by rfl, (by intro w hSw; (try dsimp only at hSw); go_simp; try with_reducible rfl)⟩) (by assumption) ?_
    (try simp only [Act.put, List.setIfInBounds_toArray, List.set_cons_zero, List.set_cons_succ])
    refine wpAnyH_take (i := 7) (oi := { dst := (some 10), op := (Go.Op.load 9 (Go.Operand.tmp 9)), type := 9, pos := "expr.go:103", after := #[{ on := 6, ground := Go.Ground.data }], guard := none }) (v := ?_) rfl (by kernel_rfl) (by kernel_rfl) (by kernel_rfl) (fun _ _ _ h => h) (Or.inl ⟨by rfl, (by intro w hSw; (try dsimp only at hSw); go_simp; try with_reducible rfl)⟩) (by assumption) ?_
    (try simp only [Act.put, List.setIfInBounds_toArray, List.set_cons_zero, List.set_cons_succ])
    refine wpAnyH_take (i := 8) (oi := { dst := (some 11), op := (Go.Op.call { callee := (Go.Callee.builtin Go.Builtin.len), args := #[(Go.Operand.tmp 10)], argTypes := #[9] }), type := 3, pos := "expr.go:103", after := #[{ on := 7, ground := Go.Ground.data }], guard := none }) (v := ?_) rfl (by kernel_rfl) (by kernel_rfl) (by kernel_rfl) (fun _ _ _ h => h) (Or.inl ⟨by rfl, (by intro w hSw; (try dsimp only at hSw); go_simp; try with_reducible rfl)⟩) (by assumption) ?_
    (try simp only [Act.put, List.setIfInBounds_toArray, List.set_cons_zero, List.set_cons_succ])
    refine wpAnyH_take (i := 9) (oi := { dst := (some 12), op := (Go.Op.binOp Go.BinOp.lss 3 (Go.Operand.tmp 6) (Go.Operand.tmp 11) 3), type := 4, pos := "expr.go:103", after := #[{ on := 3, ground := Go.Ground.data }, { on := 8, ground := Go.Ground.data }], guard := none }) (v := ?_) rfl (by kernel_rfl) (by kernel_rfl) (by kernel_rfl) (fun _ _ _ h => h) (Or.inl ⟨by rfl, (by intro w hSw; (try dsimp only at hSw); go_simp; try with_reducible rfl)⟩) (by assumption) ?_
    (try simp only [Act.put, List.setIfInBounds_toArray, List.set_cons_zero, List.set_cons_succ])
    refine wpAnyH_take (i := 10) (oi := { dst := (some 13), op := (Go.Op.move (Go.Operand.tmp 12)), type := 4, pos := "expr.go:103", after := #[{ on := 9, ground := Go.Ground.data }], guard := none }) (v := ?_) rfl (by kernel_rfl) (by kernel_rfl) (by kernel_rfl) (fun _ _ _ h => h) (Or.inl ⟨by rfl, (by intro w hSw; (try dsimp only at hSw); go_simp; try with_reducible rfl)⟩) (by assumption) ?_
    (try simp only [Act.put, List.setIfInBounds_toArray, List.set_cons_zero, List.set_cons_succ])
    refine wpAnyH_take (i := 11) (oi := { dst := (some 14), op := (Go.Op.move (Go.Operand.tmp 0)), type := 152, pos := "expr.go:103", after := #[{ on := 10, ground := Go.Ground.guard }], guard := (some (10, true)) }) (v := undef) rfl (by kernel_rfl) (by kernel_rfl) (by kernel_rfl) (fun _ _ _ h => h) (Or.inr ⟨by rfl, rfl⟩) (by assumption) ?_
    (try simp only [Act.put, List.setIfInBounds_toArray, List.set_cons_zero, List.set_cons_succ])
    refine wpAnyH_take (i := 12) (oi := { dst := (some 15), op := (Go.Op.nilCheck (Go.Operand.tmp 14)), type := 0, pos := "expr.go:103", after := #[{ on := 11, ground := Go.Ground.data }, { on := 10, ground := Go.Ground.guard }], guard := (some (10, true)) }) (v := undef) rfl (by kernel_rfl) (by kernel_rfl) (by kernel_rfl) (fun _ _ _ h => h) (Or.inr ⟨by rfl, rfl⟩) (by assumption) ?_
    (try simp only [Act.put, List.setIfInBounds_toArray, List.set_cons_zero, List.set_cons_succ])
    refine wpAnyH_take (i := 13) (oi := { dst := (some 16), op := (Go.Op.fieldAddr 154 (Go.Operand.tmp 15) 0), type := 0, pos := "expr.go:103", after := #[{ on := 12, ground := Go.Ground.data }, { on := 10, ground := Go.Ground.guard }], guard := (some (10, true)) }) (v := undef) rfl (by kernel_rfl) (by kernel_rfl) (by kernel_rfl) (fun _ _ _ h => h) (Or.inr ⟨by rfl, rfl⟩) (by assumption) ?_
    (try simp only [Act.put, List.setIfInBounds_toArray, List.set_cons_zero, List.set_cons_succ])
    refine wpAnyH_take (i := 14) (oi := { dst := (some 17), op := (Go.Op.load 9 (Go.Operand.tmp 16)), type := 9, pos := "expr.go:103", after := #[{ on := 13, ground := Go.Ground.data }, { on := 10, ground := Go.Ground.guard }], guard := (some (10, true)) }) (v := undef) rfl (by kernel_rfl) (by kernel_rfl) (by kernel_rfl) (fun _ _ _ h => h) (Or.inr ⟨by rfl, rfl⟩) (by assumption) ?_
    (try simp only [Act.put, List.setIfInBounds_toArray, List.set_cons_zero, List.set_cons_succ])
    refine wpAnyH_take (i := 15) (oi := { dst := (some 18), op := (Go.Op.move (Go.Operand.tmp 0)), type := 152, pos := "expr.go:103", after := #[{ on := 10, ground := Go.Ground.guard }], guard := (some (10, true)) }) (v := undef) rfl (by kernel_rfl) (by kernel_rfl) (by kernel_rfl) (fun _ _ _ h => h) (Or.inr ⟨by rfl, rfl⟩) (by assumption) ?_
    (try simp only [Act.put, List.setIfInBounds_toArray, List.set_cons_zero, List.set_cons_succ])
    refine wpAnyH_take (i := 16) (oi := { dst := (some 19), op := (Go.Op.nilCheck (Go.Operand.tmp 18)), type := 0, pos := "expr.go:103", after := #[{ on := 15, ground := Go.Ground.data }, { on := 10, ground := Go.Ground.guard }], guard := (some (10, true)) }) (v := undef) rfl (by kernel_rfl) (by kernel_rfl) (by kernel_rfl) (fun _ _ _ h => h) (Or.inr ⟨by rfl, rfl⟩) (by assumption) ?_
    (try simp only [Act.put, List.setIfInBounds_toArray, List.set_cons_zero, List.set_cons_succ])
    refine wpAnyH_take (i := 17) (oi := { dst := (some 20), op := (Go.Op.fieldAddr 154 (Go.Operand.tmp 19) 1), type := 0, pos := "expr.go:103", after := #[{ on := 16, ground := Go.Ground.data }, { on := 10, ground := Go.Ground.guard }], guard := (some (10, true)) }) (v := undef) rfl (by kernel_rfl) (by kernel_rfl) (by kernel_rfl) (fun _ _ _ h => h) (Or.inr ⟨by rfl, rfl⟩) (by assumption) ?_
    (try simp only [Act.put, List.setIfInBounds_toArray, List.set_cons_zero, List.set_cons_succ])
    refine wpAnyH_take (i := 18) (oi := { dst := (some 21), op := (Go.Op.load 3 (Go.Operand.tmp 20)), type := 3, pos := "expr.go:103", after := #[{ on := 17, ground := Go.Ground.data }, { on := 10, ground := Go.Ground.guard }], guard := (some (10, true)) }) (v := undef) rfl (by kernel_rfl) (by kernel_rfl) (by kernel_rfl) (fun _ _ _ h => h) (Or.inr ⟨by rfl, rfl⟩) (by assumption) ?_
    (try simp only [Act.put, List.setIfInBounds_toArray, List.set_cons_zero, List.set_cons_succ])
    refine wpAnyH_take (i := 19) (oi := { dst := (some 22), op := (Go.Op.index 9 (Go.Operand.tmp 17) (Go.Operand.tmp 21)), type := 5, pos := "expr.go:103", after := #[{ on := 14, ground := Go.Ground.data }, { on := 18, ground := Go.Ground.data }, { on := 10, ground := Go.Ground.guard }], guard := (some (10, true)) }) (v := undef) rfl (by kernel_rfl) (by kernel_rfl) (by kernel_rfl) (fun _ _ _ h => h) (Or.inr ⟨by rfl, rfl⟩) (by assumption) ?_
    (try simp only [Act.put, List.setIfInBounds_toArray, List.set_cons_zero, List.set_cons_succ])
    refine wpAnyH_take (i := 20) (oi := { dst := (some 23), op := (Go.Op.binOp Go.BinOp.eql 5 (Go.Operand.tmp 22) (Go.Operand.const (Go.Value.int Go.IntKind.u8 32)) 5), type := 4, pos := "expr.go:103", after := #[{ on := 19, ground := Go.Ground.data }, { on := 10, ground := Go.Ground.guard }], guard := (some (10, true)) }) (v := undef) rfl (by kernel_rfl) (by kernel_rfl) (by kernel_rfl) (fun _ _ _ h => h) (Or.inr ⟨by rfl, rfl⟩) (by assumption) ?_
    (try simp only [Act.put, List.setIfInBounds_toArray, List.set_cons_zero, List.set_cons_succ])
    refine wpAnyH_take (i := 21) (oi := { dst := (some 24), op := (Go.Op.pick (Go.Operand.tmp 13) (Go.Operand.tmp 23) (Go.Operand.const (Go.Value.bool false))), type := 4, pos := "expr.go:103", after := #[{ on := 10, ground := Go.Ground.data }, { on := 20, ground := Go.Ground.data }], guard := none }) (v := ?_) rfl (by kernel_rfl) (by kernel_rfl) (by kernel_rfl) (fun _ _ _ h => h) (Or.inl ⟨by rfl, (by intro w hSw; (try dsimp only at hSw); go_simp; try with_reducible rfl)⟩) (by assumption) ?_
    (try simp only [Act.put, List.setIfInBounds_toArray, List.set_cons_zero, List.set_cons_succ])
    refine wpAnyH_done (by kernel_rfl) ?_ _
    go_wp2
    refine wp_region_held_drew (S := (fun v => v.cell? ⟨tb, 0, none⟩ = some (.string s) ∧ v.cell? ⟨tb, 1, none⟩ = some (.int .i64 s.size))) (by kernel_rfl) ?_ (fun hHeld => ?_)
    · exact ⟨c0d, c1d⟩
    refine wpAnyH_take (i := 0) (oi := { dst := (some 32), op := (Go.Op.move (Go.Operand.tmp 0)), type := 152, pos := "expr.go:106", after := #[], guard := none }) (v := ?_) rfl (by kernel_rfl) (by kernel_rfl) (by kernel_rfl) (fun _ _ _ h => h) (Or.inl ⟨by rfl, (by intro w hSw; (try dsimp only at hSw); go_simp; try with_reducible rfl)⟩) (by assumption) ?_
    (try simp only [Act.put, List.setIfInBounds_toArray, List.set_cons_zero, List.set_cons_succ])
    refine wpAnyH_take (i := 1) (oi := { dst := (some 33), op := (Go.Op.nilCheck (Go.Operand.tmp 32)), type := 0, pos := "expr.go:106", after := #[{ on := 0, ground := Go.Ground.data }], guard := none }) (v := ?_) rfl (by kernel_rfl) (by kernel_rfl) (by kernel_rfl) (fun _ _ _ h => h) (Or.inl ⟨by rfl, (by intro w hSw; (try dsimp only at hSw); go_simp; try with_reducible rfl)⟩) (by assumption) ?_
    (try simp only [Act.put, List.setIfInBounds_toArray, List.set_cons_zero, List.set_cons_succ])
    refine wpAnyH_take (i := 2) (oi := { dst := (some 34), op := (Go.Op.fieldAddr 154 (Go.Operand.tmp 33) 1), type := 0, pos := "expr.go:106", after := #[{ on := 1, ground := Go.Ground.data }], guard := none }) (v := ?_) rfl (by kernel_rfl) (by kernel_rfl) (by kernel_rfl) (fun _ _ _ h => h) (Or.inl ⟨by rfl, (by intro w hSw; (try dsimp only at hSw); go_simp; try with_reducible rfl)⟩) (by assumption) ?_
    (try simp only [Act.put, List.setIfInBounds_toArray, List.set_cons_zero, List.set_cons_succ])
    refine wpAnyH_take (i := 3) (oi := { dst := (some 35), op := (Go.Op.load 3 (Go.Operand.tmp 34)), type := 3, pos := "expr.go:106", after := #[{ on := 2, ground := Go.Ground.data }], guard := none }) (v := ?_) rfl (by kernel_rfl) (by kernel_rfl) (by kernel_rfl) (fun _ _ _ h => h) (Or.inl ⟨by rfl, (by intro w hSw; (try dsimp only at hSw); go_simp; try with_reducible rfl)⟩) (by assumption) ?_
    (try simp only [Act.put, List.setIfInBounds_toArray, List.set_cons_zero, List.set_cons_succ])
    refine wpAnyH_take (i := 4) (oi := { dst := (some 36), op := (Go.Op.move (Go.Operand.tmp 0)), type := 152, pos := "expr.go:106", after := #[], guard := none }) (v := ?_) rfl (by kernel_rfl) (by kernel_rfl) (by kernel_rfl) (fun _ _ _ h => h) (Or.inl ⟨by rfl, (by intro w hSw; (try dsimp only at hSw); go_simp; try with_reducible rfl)⟩) (by assumption) ?_
    (try simp only [Act.put, List.setIfInBounds_toArray, List.set_cons_zero, List.set_cons_succ])
    refine wpAnyH_take (i := 5) (oi := { dst := (some 37), op := (Go.Op.nilCheck (Go.Operand.tmp 36)), type := 0, pos := "expr.go:106", after := #[{ on := 4, ground := Go.Ground.data }], guard := none }) (v := ?_) rfl (by kernel_rfl) (by kernel_rfl) (by kernel_rfl) (fun _ _ _ h => h) (Or.inl ⟨by rfl, (by intro w hSw; (try dsimp only at hSw); go_simp; try with_reducible rfl)⟩) (by assumption) ?_
    (try simp only [Act.put, List.setIfInBounds_toArray, List.set_cons_zero, List.set_cons_succ])
    refine wpAnyH_take (i := 6) (oi := { dst := (some 38), op := (Go.Op.fieldAddr 154 (Go.Operand.tmp 37) 0), type := 0, pos := "expr.go:106", after := #[{ on := 5, ground := Go.Ground.data }], guard := none }) (v := ?_) rfl (by kernel_rfl) (by kernel_rfl) (by kernel_rfl) (fun _ _ _ h => h) (Or.inl ⟨by rfl, (by intro w hSw; (try dsimp only at hSw); go_simp; try with_reducible rfl)⟩) (by assumption) ?_
    (try simp only [Act.put, List.setIfInBounds_toArray, List.set_cons_zero, List.set_cons_succ])
    refine wpAnyH_take (i := 7) (oi := { dst := (some 39), op := (Go.Op.load 9 (Go.Operand.tmp 38)), type := 9, pos := "expr.go:106", after := #[{ on := 6, ground := Go.Ground.data }], guard := none }) (v := ?_) rfl (by kernel_rfl) (by kernel_rfl) (by kernel_rfl) (fun _ _ _ h => h) (Or.inl ⟨by rfl, (by intro w hSw; (try dsimp only at hSw); go_simp; try with_reducible rfl)⟩) (by assumption) ?_
    (try simp only [Act.put, List.setIfInBounds_toArray, List.set_cons_zero, List.set_cons_succ])
    refine wpAnyH_take (i := 8) (oi := { dst := (some 40), op := (Go.Op.call { callee := (Go.Callee.builtin Go.Builtin.len), args := #[(Go.Operand.tmp 39)], argTypes := #[9] }), type := 3, pos := "expr.go:106", after := #[{ on := 7, ground := Go.Ground.data }], guard := none }) (v := ?_) rfl (by kernel_rfl) (by kernel_rfl) (by kernel_rfl) (fun _ _ _ h => h) (Or.inl ⟨by rfl, (by intro w hSw; (try dsimp only at hSw); go_simp; try with_reducible rfl)⟩) (by assumption) ?_
    (try simp only [Act.put, List.setIfInBounds_toArray, List.set_cons_zero, List.set_cons_succ])
    refine wpAnyH_take (i := 9) (oi := { dst := (some 41), op := (Go.Op.binOp Go.BinOp.eql 3 (Go.Operand.tmp 35) (Go.Operand.tmp 40) 3), type := 4, pos := "expr.go:106", after := #[{ on := 3, ground := Go.Ground.data }, { on := 8, ground := Go.Ground.data }], guard := none }) (v := ?_) rfl (by kernel_rfl) (by kernel_rfl) (by kernel_rfl) (fun _ _ _ h => h) (Or.inl ⟨by rfl, (by intro w hSw; (try dsimp only at hSw); go_simp; try with_reducible rfl)⟩) (by assumption) ?_
    (try simp only [Act.put, List.setIfInBounds_toArray, List.set_cons_zero, List.set_cons_succ])
    refine wpAnyH_done (by kernel_rfl) ?_ _
    go_wp2
    go_ret
    exact ⟨rfl, ((Upd.refl _ _).drew).drew⟩

set_option maxRecDepth 100000 in
set_option maxHeartbeats 4000000 in
theorem next_at {w : World} {tb k : Nat} {s : ByteArray} (h : TB w tb s k) (hk : k < s.size) (h32 : (s[k] == 32) = false) (h0 : 1 ≤ s[k].toNat) (hs : s.size ≤ 1000) :
    Calls Tryz.prog 98 #[.pointer (some ⟨tb, 0, none⟩)] w fun r w' => r = .returned (.int .u8 s[k].toNat) ∧ Pure w w' := by
  have HT := As.mk h
  have hlt : ((k : Int) < (s.size : Int)) := by omega
  have hlt2 : decide (k < s.size) = true := by simp; exact hk
  have hlt3 : decide ((k : Int) < (s.size : Int)) = true := by simp; omega
  have heq2 : (k == s.size) = false := by simp; omega
  have heq3 : ((k : Int) == (s.size : Int)) = false := by simp; omega
  have hb1 : ((s[k].toNat : Int) == 32) = false := by
    have : s[k] ≠ 32 := by simpa using h32
    simp
    intro h
    apply this
    apply UInt8.toNat_inj.1
    have : s[k].toNat = 32 := by omega
    rw [this]; rfl
  have hb2 : (s[k].toNat == 32) = false := by
    simp at hb1 ⊢
    omega
  have hmx : max (s[k].toNat : Int) 1 = (s[k].toNat : Int) := by omega
  clear h
  go_enter Tryz.func98, Tryz.ntmps98
  go_wp2
  go_loopg [] 0 (fun g wr => As (wr = w))
  case atStart => exact ⟨rfl⟩
  case round =>
    obtain rfl := hrel.out
    obtain ⟨⟨c0, c1⟩, f1, htb⟩ := HT.out.cells
    have c0d : wr.drew.cell? ⟨tb, 0, none⟩ = some (.string s) := c0
    have c1d : wr.drew.cell? ⟨tb, 1, none⟩ = some (.int .i64 k) := c1
    go_wp2
    refine wp_region_held_drew (S := (fun v => v.cell? ⟨tb, 0, none⟩ = some (.string s) ∧ v.cell? ⟨tb, 1, none⟩ = some (.int .i64 k))) (by kernel_rfl) ?_ (fun hHeld => ?_)
    · exact ⟨c0d, c1d⟩
    refine wpAnyH_take (i := 0) (oi := { dst := (some 3), op := (Go.Op.move (Go.Operand.tmp 0)), type := 152, pos := "expr.go:103", after := #[], guard := none }) (v := ?_) rfl (by kernel_rfl) (by kernel_rfl) (by kernel_rfl) (fun _ _ _ h => h) (Or.inl ⟨by rfl, (by intro w hSw; (try dsimp only at hSw); go_simp; try with_reducible rfl)⟩) (by assumption) ?_
    (try simp only [Act.put, List.setIfInBounds_toArray, List.set_cons_zero, List.set_cons_succ])
    refine wpAnyH_take (i := 1) (oi := { dst := (some 4), op := (Go.Op.nilCheck (Go.Operand.tmp 3)), type := 0, pos := "expr.go:103", after := #[{ on := 0, ground := Go.Ground.data }], guard := none }) (v := ?_) rfl (by kernel_rfl) (by kernel_rfl) (by kernel_rfl) (fun _ _ _ h => h) (Or.inl ⟨by rfl, (by intro w hSw; (try dsimp only at hSw); go_simp; try with_reducible rfl)⟩) (by assumption) ?_
    (try simp only [Act.put, List.setIfInBounds_toArray, List.set_cons_zero, List.set_cons_succ])
    refine wpAnyH_take (i := 2) (oi := { dst := (some 5), op := (Go.Op.fieldAddr 154 (Go.Operand.tmp 4) 1), type := 0, pos := "expr.go:103", after := #[{ on := 1, ground := Go.Ground.data }], guard := none }) (v := ?_) rfl (by kernel_rfl) (by kernel_rfl) (by kernel_rfl) (fun _ _ _ h => h) (Or.inl ⟨by rfl, (by intro w hSw; (try dsimp only at hSw); go_simp; try with_reducible rfl)⟩) (by assumption) ?_
    (try simp only [Act.put, List.setIfInBounds_toArray, List.set_cons_zero, List.set_cons_succ])
    refine wpAnyH_take (i := 3) (oi := { dst := (some 6), op := (Go.Op.load 3 (Go.Operand.tmp 5)), type := 3, pos := "expr.go:103", after := #[{ on := 2, ground := Go.Ground.data }], guard := none }) (v := ?_) rfl (by kernel_rfl) (by kernel_rfl) (by kernel_rfl) (fun _ _ _ h => h) (Or.inl ⟨by rfl, (by intro w hSw; (try dsimp only at hSw); go_simp; try with_reducible rfl)⟩) (by assumption) ?_
    (try simp only [Act.put, List.setIfInBounds_toArray, List.set_cons_zero, List.set_cons_succ])
    refine wpAnyH_take (i := 4) (oi := { dst := (some 7), op := (Go.Op.move (Go.Operand.tmp 0)), type := 152, pos := "expr.go:103", after := #[], guard := none }) (v := ?_) rfl (by kernel_rfl) (by kernel_rfl) (by kernel_rfl) (fun _ _ _ h => h) (Or.inl ⟨by rfl, (by intro w hSw; (try dsimp only at hSw); go_simp; try with_reducible rfl)⟩) (by assumption) ?_
    (try simp only [Act.put, List.setIfInBounds_toArray, List.set_cons_zero, List.set_cons_succ])
    refine wpAnyH_take (i := 5) (oi := { dst := (some 8), op := (Go.Op.nilCheck (Go.Operand.tmp 7)), type := 0, pos := "expr.go:103", after := #[{ on := 4, ground := Go.Ground.data }], guard := none }) (v := ?_) rfl (by kernel_rfl) (by kernel_rfl) (by kernel_rfl) (fun _ _ _ h => h) (Or.inl ⟨by rfl, (by intro w hSw; (try dsimp only at hSw); go_simp; try with_reducible rfl)⟩) (by assumption) ?_
    (try simp only [Act.put, List.setIfInBounds_toArray, List.set_cons_zero, List.set_cons_succ])
    refine wpAnyH_take (i := 6) (oi := { dst := (some 9), op := (Go.Op.fieldAddr 154 (Go.Operand.tmp 8) 0), type := 0, pos := "expr.go:103", after := #[{ on := 5, ground := Go.Ground.data }], guard := none }) (v := ?_) rfl (by kernel_rfl) (by kernel_rfl) (by kernel_rfl) (fun _ _ _ h => h) (Or.inl ⟨by rfl, (by intro w hSw; (try dsimp only at hSw); go_simp; try with_reducible rfl)⟩) (by assumption) ?_
    (try simp only [Act.put, List.setIfInBounds_toArray, List.set_cons_zero, List.set_cons_succ])
    refine wpAnyH_take (i := 7) (oi := { dst := (some 10), op := (Go.Op.load 9 (Go.Operand.tmp 9)), type := 9, pos := "expr.go:103", after := #[{ on := 6, ground := Go.Ground.data }], guard := none }) (v := ?_) rfl (by kernel_rfl) (by kernel_rfl) (by kernel_rfl) (fun _ _ _ h => h) (Or.inl ⟨by rfl, (by intro w hSw; (try dsimp only at hSw); go_simp; try with_reducible rfl)⟩) (by assumption) ?_
    (try simp only [Act.put, List.setIfInBounds_toArray, List.set_cons_zero, List.set_cons_succ])
    refine wpAnyH_take (i := 8) (oi := { dst := (some 11), op := (Go.Op.call { callee := (Go.Callee.builtin Go.Builtin.len), args := #[(Go.Operand.tmp 10)], argTypes := #[9] }), type := 3, pos := "expr.go:103", after := #[{ on := 7, ground := Go.Ground.data }], guard := none }) (v := ?_) rfl (by kernel_rfl) (by kernel_rfl) (by kernel_rfl) (fun _ _ _ h => h) (Or.inl ⟨by rfl, (by intro w hSw; (try dsimp only at hSw); go_simp; try with_reducible rfl)⟩) (by assumption) ?_
    (try simp only [Act.put, List.setIfInBounds_toArray, List.set_cons_zero, List.set_cons_succ])
    refine wpAnyH_take (i := 9) (oi := { dst := (some 12), op := (Go.Op.binOp Go.BinOp.lss 3 (Go.Operand.tmp 6) (Go.Operand.tmp 11) 3), type := 4, pos := "expr.go:103", after := #[{ on := 3, ground := Go.Ground.data }, { on := 8, ground := Go.Ground.data }], guard := none }) (v := ?_) rfl (by kernel_rfl) (by kernel_rfl) (by kernel_rfl) (fun _ _ _ h => h) (Or.inl ⟨by rfl, (by intro w hSw; (try dsimp only at hSw); go_simp; try with_reducible rfl)⟩) (by assumption) ?_
    (try simp only [Act.put, List.setIfInBounds_toArray, List.set_cons_zero, List.set_cons_succ])
    refine wpAnyH_take (i := 10) (oi := { dst := (some 13), op := (Go.Op.move (Go.Operand.tmp 12)), type := 4, pos := "expr.go:103", after := #[{ on := 9, ground := Go.Ground.data }], guard := none }) (v := ?_) rfl (by kernel_rfl) (by kernel_rfl) (by kernel_rfl) (fun _ _ _ h => h) (Or.inl ⟨by rfl, (by intro w hSw; (try dsimp only at hSw); go_simp; try with_reducible rfl)⟩) (by assumption) ?_
    (try simp only [Act.put, List.setIfInBounds_toArray, List.set_cons_zero, List.set_cons_succ])
    refine wpAnyH_take (i := 11) (oi := { dst := (some 14), op := (Go.Op.move (Go.Operand.tmp 0)), type := 152, pos := "expr.go:103", after := #[{ on := 10, ground := Go.Ground.guard }], guard := (some (10, true)) }) (v := ?_) rfl (by kernel_rfl) (by kernel_rfl) (by kernel_rfl) (fun _ _ _ h => h) (Or.inl ⟨by rfl, (by intro w hSw; (try dsimp only at hSw); go_simp; try with_reducible rfl)⟩) (by assumption) ?_
    (try simp only [Act.put, List.setIfInBounds_toArray, List.set_cons_zero, List.set_cons_succ])
    refine wpAnyH_take (i := 12) (oi := { dst := (some 15), op := (Go.Op.nilCheck (Go.Operand.tmp 14)), type := 0, pos := "expr.go:103", after := #[{ on := 11, ground := Go.Ground.data }, { on := 10, ground := Go.Ground.guard }], guard := (some (10, true)) }) (v := ?_) rfl (by kernel_rfl) (by kernel_rfl) (by kernel_rfl) (fun _ _ _ h => h) (Or.inl ⟨by rfl, (by intro w hSw; (try dsimp only at hSw); go_simp; try with_reducible rfl)⟩) (by assumption) ?_
    (try simp only [Act.put, List.setIfInBounds_toArray, List.set_cons_zero, List.set_cons_succ])
    refine wpAnyH_take (i := 13) (oi := { dst := (some 16), op := (Go.Op.fieldAddr 154 (Go.Operand.tmp 15) 0), type := 0, pos := "expr.go:103", after := #[{ on := 12, ground := Go.Ground.data }, { on := 10, ground := Go.Ground.guard }], guard := (some (10, true)) }) (v := ?_) rfl (by kernel_rfl) (by kernel_rfl) (by kernel_rfl) (fun _ _ _ h => h) (Or.inl ⟨by rfl, (by intro w hSw; (try dsimp only at hSw); go_simp; try with_reducible rfl)⟩) (by assumption) ?_
    (try simp only [Act.put, List.setIfInBounds_toArray, List.set_cons_zero, List.set_cons_succ])
    refine wpAnyH_take (i := 14) (oi := { dst := (some 17), op := (Go.Op.load 9 (Go.Operand.tmp 16)), type := 9, pos := "expr.go:103", after := #[{ on := 13, ground := Go.Ground.data }, { on := 10, ground := Go.Ground.guard }], guard := (some (10, true)) }) (v := ?_) rfl (by kernel_rfl) (by kernel_rfl) (by kernel_rfl) (fun _ _ _ h => h) (Or.inl ⟨by rfl, (by intro w hSw; (try dsimp only at hSw); go_simp; try with_reducible rfl)⟩) (by assumption) ?_
    (try simp only [Act.put, List.setIfInBounds_toArray, List.set_cons_zero, List.set_cons_succ])
    refine wpAnyH_take (i := 15) (oi := { dst := (some 18), op := (Go.Op.move (Go.Operand.tmp 0)), type := 152, pos := "expr.go:103", after := #[{ on := 10, ground := Go.Ground.guard }], guard := (some (10, true)) }) (v := ?_) rfl (by kernel_rfl) (by kernel_rfl) (by kernel_rfl) (fun _ _ _ h => h) (Or.inl ⟨by rfl, (by intro w hSw; (try dsimp only at hSw); go_simp; try with_reducible rfl)⟩) (by assumption) ?_
    (try simp only [Act.put, List.setIfInBounds_toArray, List.set_cons_zero, List.set_cons_succ])
    refine wpAnyH_take (i := 16) (oi := { dst := (some 19), op := (Go.Op.nilCheck (Go.Operand.tmp 18)), type := 0, pos := "expr.go:103", after := #[{ on := 15, ground := Go.Ground.data }, { on := 10, ground := Go.Ground.guard }], guard := (some (10, true)) }) (v := ?_) rfl (by kernel_rfl) (by kernel_rfl) (by kernel_rfl) (fun _ _ _ h => h) (Or.inl ⟨by rfl, (by intro w hSw; (try dsimp only at hSw); go_simp; try with_reducible rfl)⟩) (by assumption) ?_
    (try simp only [Act.put, List.setIfInBounds_toArray, List.set_cons_zero, List.set_cons_succ])
    refine wpAnyH_take (i := 17) (oi := { dst := (some 20), op := (Go.Op.fieldAddr 154 (Go.Operand.tmp 19) 1), type := 0, pos := "expr.go:103", after := #[{ on := 16, ground := Go.Ground.data }, { on := 10, ground := Go.Ground.guard }], guard := (some (10, true)) }) (v := ?_) rfl (by kernel_rfl) (by kernel_rfl) (by kernel_rfl) (fun _ _ _ h => h) (Or.inl ⟨by rfl, (by intro w hSw; (try dsimp only at hSw); go_simp; try with_reducible rfl)⟩) (by assumption) ?_
    (try simp only [Act.put, List.setIfInBounds_toArray, List.set_cons_zero, List.set_cons_succ])
    refine wpAnyH_take (i := 18) (oi := { dst := (some 21), op := (Go.Op.load 3 (Go.Operand.tmp 20)), type := 3, pos := "expr.go:103", after := #[{ on := 17, ground := Go.Ground.data }, { on := 10, ground := Go.Ground.guard }], guard := (some (10, true)) }) (v := ?_) rfl (by kernel_rfl) (by kernel_rfl) (by kernel_rfl) (fun _ _ _ h => h) (Or.inl ⟨by rfl, (by intro w hSw; (try dsimp only at hSw); go_simp; try with_reducible rfl)⟩) (by assumption) ?_
    (try simp only [Act.put, List.setIfInBounds_toArray, List.set_cons_zero, List.set_cons_succ])
    refine wpAnyH_take (i := 19) (oi := { dst := (some 22), op := (Go.Op.index 9 (Go.Operand.tmp 17) (Go.Operand.tmp 21)), type := 5, pos := "expr.go:103", after := #[{ on := 14, ground := Go.Ground.data }, { on := 18, ground := Go.Ground.data }, { on := 10, ground := Go.Ground.guard }], guard := (some (10, true)) }) (v := ?_) rfl (by kernel_rfl) (by kernel_rfl) (by kernel_rfl) (fun _ _ _ h => h) (Or.inl ⟨by rfl, (by intro w hSw; (try dsimp only at hSw); go_simp; try with_reducible rfl)⟩) (by assumption) ?_
    (try simp only [Act.put, List.setIfInBounds_toArray, List.set_cons_zero, List.set_cons_succ])
    refine wpAnyH_take (i := 20) (oi := { dst := (some 23), op := (Go.Op.binOp Go.BinOp.eql 5 (Go.Operand.tmp 22) (Go.Operand.const (Go.Value.int Go.IntKind.u8 32)) 5), type := 4, pos := "expr.go:103", after := #[{ on := 19, ground := Go.Ground.data }, { on := 10, ground := Go.Ground.guard }], guard := (some (10, true)) }) (v := ?_) rfl (by kernel_rfl) (by kernel_rfl) (by kernel_rfl) (fun _ _ _ h => h) (Or.inl ⟨by rfl, (by intro w hSw; (try dsimp only at hSw); go_simp; try with_reducible rfl)⟩) (by assumption) ?_
    (try simp only [Act.put, List.setIfInBounds_toArray, List.set_cons_zero, List.set_cons_succ])
    refine wpAnyH_take (i := 21) (oi := { dst := (some 24), op := (Go.Op.pick (Go.Operand.tmp 13) (Go.Operand.tmp 23) (Go.Operand.const (Go.Value.bool false))), type := 4, pos := "expr.go:103", after := #[{ on := 10, ground := Go.Ground.data }, { on := 20, ground := Go.Ground.data }], guard := none }) (v := ?_) rfl (by kernel_rfl) (by kernel_rfl) (by kernel_rfl) (fun _ _ _ h => h) (Or.inl ⟨by rfl, (by intro w hSw; (try dsimp only at hSw); go_simp; try with_reducible rfl)⟩) (by assumption) ?_
    (try simp only [Act.put, List.setIfInBounds_toArray, List.set_cons_zero, List.set_cons_succ])
    refine wpAnyH_done (by kernel_rfl) ?_ _
    go_wp2
    refine wp_region_held_drew (S := (fun v => v.cell? ⟨tb, 0, none⟩ = some (.string s) ∧ v.cell? ⟨tb, 1, none⟩ = some (.int .i64 k))) (by kernel_rfl) ?_ (fun hHeld => ?_)
    · exact ⟨c0d, c1d⟩
    refine wpAnyH_take (i := 0) (oi := { dst := (some 32), op := (Go.Op.move (Go.Operand.tmp 0)), type := 152, pos := "expr.go:106", after := #[], guard := none }) (v := ?_) rfl (by kernel_rfl) (by kernel_rfl) (by kernel_rfl) (fun _ _ _ h => h) (Or.inl ⟨by rfl, (by intro w hSw; (try dsimp only at hSw); go_simp; try with_reducible rfl)⟩) (by assumption) ?_
    (try simp only [Act.put, List.setIfInBounds_toArray, List.set_cons_zero, List.set_cons_succ])
    refine wpAnyH_take (i := 1) (oi := { dst := (some 33), op := (Go.Op.nilCheck (Go.Operand.tmp 32)), type := 0, pos := "expr.go:106", after := #[{ on := 0, ground := Go.Ground.data }], guard := none }) (v := ?_) rfl (by kernel_rfl) (by kernel_rfl) (by kernel_rfl) (fun _ _ _ h => h) (Or.inl ⟨by rfl, (by intro w hSw; (try dsimp only at hSw); go_simp; try with_reducible rfl)⟩) (by assumption) ?_
    (try simp only [Act.put, List.setIfInBounds_toArray, List.set_cons_zero, List.set_cons_succ])
    refine wpAnyH_take (i := 2) (oi := { dst := (some 34), op := (Go.Op.fieldAddr 154 (Go.Operand.tmp 33) 1), type := 0, pos := "expr.go:106", after := #[{ on := 1, ground := Go.Ground.data }], guard := none }) (v := ?_) rfl (by kernel_rfl) (by kernel_rfl) (by kernel_rfl) (fun _ _ _ h => h) (Or.inl ⟨by rfl, (by intro w hSw; (try dsimp only at hSw); go_simp; try with_reducible rfl)⟩) (by assumption) ?_
    (try simp only [Act.put, List.setIfInBounds_toArray, List.set_cons_zero, List.set_cons_succ])
    refine wpAnyH_take (i := 3) (oi := { dst := (some 35), op := (Go.Op.load 3 (Go.Operand.tmp 34)), type := 3, pos := "expr.go:106", after := #[{ on := 2, ground := Go.Ground.data }], guard := none }) (v := ?_) rfl (by kernel_rfl) (by kernel_rfl) (by kernel_rfl) (fun _ _ _ h => h) (Or.inl ⟨by rfl, (by intro w hSw; (try dsimp only at hSw); go_simp; try with_reducible rfl)⟩) (by assumption) ?_
    (try simp only [Act.put, List.setIfInBounds_toArray, List.set_cons_zero, List.set_cons_succ])
    refine wpAnyH_take (i := 4) (oi := { dst := (some 36), op := (Go.Op.move (Go.Operand.tmp 0)), type := 152, pos := "expr.go:106", after := #[], guard := none }) (v := ?_) rfl (by kernel_rfl) (by kernel_rfl) (by kernel_rfl) (fun _ _ _ h => h) (Or.inl ⟨by rfl, (by intro w hSw; (try dsimp only at hSw); go_simp; try with_reducible rfl)⟩) (by assumption) ?_
    (try simp only [Act.put, List.setIfInBounds_toArray, List.set_cons_zero, List.set_cons_succ])
    refine wpAnyH_take (i := 5) (oi := { dst := (some 37), op := (Go.Op.nilCheck (Go.Operand.tmp 36)), type := 0, pos := "expr.go:106", after := #[{ on := 4, ground := Go.Ground.data }], guard := none }) (v := ?_) rfl (by kernel_rfl) (by kernel_rfl) (by kernel_rfl) (fun _ _ _ h => h) (Or.inl ⟨by rfl, (by intro w hSw; (try dsimp only at hSw); go_simp; try with_reducible rfl)⟩) (by assumption) ?_
    (try simp only [Act.put, List.setIfInBounds_toArray, List.set_cons_zero, List.set_cons_succ])
    refine wpAnyH_take (i := 6) (oi := { dst := (some 38), op := (Go.Op.fieldAddr 154 (Go.Operand.tmp 37) 0), type := 0, pos := "expr.go:106", after := #[{ on := 5, ground := Go.Ground.data }], guard := none }) (v := ?_) rfl (by kernel_rfl) (by kernel_rfl) (by kernel_rfl) (fun _ _ _ h => h) (Or.inl ⟨by rfl, (by intro w hSw; (try dsimp only at hSw); go_simp; try with_reducible rfl)⟩) (by assumption) ?_
    (try simp only [Act.put, List.setIfInBounds_toArray, List.set_cons_zero, List.set_cons_succ])
    refine wpAnyH_take (i := 7) (oi := { dst := (some 39), op := (Go.Op.load 9 (Go.Operand.tmp 38)), type := 9, pos := "expr.go:106", after := #[{ on := 6, ground := Go.Ground.data }], guard := none }) (v := ?_) rfl (by kernel_rfl) (by kernel_rfl) (by kernel_rfl) (fun _ _ _ h => h) (Or.inl ⟨by rfl, (by intro w hSw; (try dsimp only at hSw); go_simp; try with_reducible rfl)⟩) (by assumption) ?_
    (try simp only [Act.put, List.setIfInBounds_toArray, List.set_cons_zero, List.set_cons_succ])
    refine wpAnyH_take (i := 8) (oi := { dst := (some 40), op := (Go.Op.call { callee := (Go.Callee.builtin Go.Builtin.len), args := #[(Go.Operand.tmp 39)], argTypes := #[9] }), type := 3, pos := "expr.go:106", after := #[{ on := 7, ground := Go.Ground.data }], guard := none }) (v := ?_) rfl (by kernel_rfl) (by kernel_rfl) (by kernel_rfl) (fun _ _ _ h => h) (Or.inl ⟨by rfl, (by intro w hSw; (try dsimp only at hSw); go_simp; try with_reducible rfl)⟩) (by assumption) ?_
    (try simp only [Act.put, List.setIfInBounds_toArray, List.set_cons_zero, List.set_cons_succ])
    refine wpAnyH_take (i := 9) (oi := { dst := (some 41), op := (Go.Op.binOp Go.BinOp.eql 3 (Go.Operand.tmp 35) (Go.Operand.tmp 40) 3), type := 4, pos := "expr.go:106", after := #[{ on := 3, ground := Go.Ground.data }, { on := 8, ground := Go.Ground.data }], guard := none }) (v := ?_) rfl (by kernel_rfl) (by kernel_rfl) (by kernel_rfl) (fun _ _ _ h => h) (Or.inl ⟨by rfl, (by intro w hSw; (try dsimp only at hSw); go_simp; try with_reducible rfl)⟩) (by assumption) ?_
    (try simp only [Act.put, List.setIfInBounds_toArray, List.set_cons_zero, List.set_cons_succ])
    refine wpAnyH_done (by kernel_rfl) ?_ _
    go_wp2
    refine wp_region_held_drew (S := (fun v => v.cell? ⟨tb, 0, none⟩ = some (.string s) ∧ v.cell? ⟨tb, 1, none⟩ = some (.int .i64 k))) (by kernel_rfl) ?_ (fun hHeld => ?_)
    · exact ⟨c0d, c1d⟩
    refine wpAnyH_take (i := 0) (oi := { dst := (some 42), op := (Go.Op.move (Go.Operand.tmp 0)), type := 152, pos := "expr.go:109", after := #[], guard := none }) (v := ?_) rfl (by kernel_rfl) (by kernel_rfl) (by kernel_rfl) (fun _ _ _ h => h) (Or.inl ⟨by rfl, (by intro w hSw; (try dsimp only at hSw); go_simp; try with_reducible rfl)⟩) (by assumption) ?_
    (try simp only [Act.put, List.setIfInBounds_toArray, List.set_cons_zero, List.set_cons_succ])
    refine wpAnyH_take (i := 1) (oi := { dst := (some 43), op := (Go.Op.nilCheck (Go.Operand.tmp 42)), type := 0, pos := "expr.go:109", after := #[{ on := 0, ground := Go.Ground.data }], guard := none }) (v := ?_) rfl (by kernel_rfl) (by kernel_rfl) (by kernel_rfl) (fun _ _ _ h => h) (Or.inl ⟨by rfl, (by intro w hSw; (try dsimp only at hSw); go_simp; try with_reducible rfl)⟩) (by assumption) ?_
    (try simp only [Act.put, List.setIfInBounds_toArray, List.set_cons_zero, List.set_cons_succ])
    refine wpAnyH_take (i := 2) (oi := { dst := (some 44), op := (Go.Op.fieldAddr 154 (Go.Operand.tmp 43) 0), type := 0, pos := "expr.go:109", after := #[{ on := 1, ground := Go.Ground.data }], guard := none }) (v := ?_) rfl (by kernel_rfl) (by kernel_rfl) (by kernel_rfl) (fun _ _ _ h => h) (Or.inl ⟨by rfl, (by intro w hSw; (try dsimp only at hSw); go_simp; try with_reducible rfl)⟩) (by assumption) ?_
    (try simp only [Act.put, List.setIfInBounds_toArray, List.set_cons_zero, List.set_cons_succ])
    refine wpAnyH_take (i := 3) (oi := { dst := (some 45), op := (Go.Op.load 9 (Go.Operand.tmp 44)), type := 9, pos := "expr.go:109", after := #[{ on := 2, ground := Go.Ground.data }], guard := none }) (v := ?_) rfl (by kernel_rfl) (by kernel_rfl) (by kernel_rfl) (fun _ _ _ h => h) (Or.inl ⟨by rfl, (by intro w hSw; (try dsimp only at hSw); go_simp; try with_reducible rfl)⟩) (by assumption) ?_
    (try simp only [Act.put, List.setIfInBounds_toArray, List.set_cons_zero, List.set_cons_succ])
    refine wpAnyH_take (i := 4) (oi := { dst := (some 46), op := (Go.Op.move (Go.Operand.tmp 0)), type := 152, pos := "expr.go:109", after := #[], guard := none }) (v := ?_) rfl (by kernel_rfl) (by kernel_rfl) (by kernel_rfl) (fun _ _ _ h => h) (Or.inl ⟨by rfl, (by intro w hSw; (try dsimp only at hSw); go_simp; try with_reducible rfl)⟩) (by assumption) ?_
    (try simp only [Act.put, List.setIfInBounds_toArray, List.set_cons_zero, List.set_cons_succ])
    refine wpAnyH_take (i := 5) (oi := { dst := (some 47), op := (Go.Op.nilCheck (Go.Operand.tmp 46)), type := 0, pos := "expr.go:109", after := #[{ on := 4, ground := Go.Ground.data }], guard := none }) (v := ?_) rfl (by kernel_rfl) (by kernel_rfl) (by kernel_rfl) (fun _ _ _ h => h) (Or.inl ⟨by rfl, (by intro w hSw; (try dsimp only at hSw); go_simp; try with_reducible rfl)⟩) (by assumption) ?_
    (try simp only [Act.put, List.setIfInBounds_toArray, List.set_cons_zero, List.set_cons_succ])
    refine wpAnyH_take (i := 6) (oi := { dst := (some 48), op := (Go.Op.fieldAddr 154 (Go.Operand.tmp 47) 1), type := 0, pos := "expr.go:109", after := #[{ on := 5, ground := Go.Ground.data }], guard := none }) (v := ?_) rfl (by kernel_rfl) (by kernel_rfl) (by kernel_rfl) (fun _ _ _ h => h) (Or.inl ⟨by rfl, (by intro w hSw; (try dsimp only at hSw); go_simp; try with_reducible rfl)⟩) (by assumption) ?_
    (try simp only [Act.put, List.setIfInBounds_toArray, List.set_cons_zero, List.set_cons_succ])
    refine wpAnyH_take (i := 7) (oi := { dst := (some 49), op := (Go.Op.load 3 (Go.Operand.tmp 48)), type := 3, pos := "expr.go:109", after := #[{ on := 6, ground := Go.Ground.data }], guard := none }) (v := ?_) rfl (by kernel_rfl) (by kernel_rfl) (by kernel_rfl) (fun _ _ _ h => h) (Or.inl ⟨by rfl, (by intro w hSw; (try dsimp only at hSw); go_simp; try with_reducible rfl)⟩) (by assumption) ?_
    (try simp only [Act.put, List.setIfInBounds_toArray, List.set_cons_zero, List.set_cons_succ])
    refine wpAnyH_take (i := 8) (oi := { dst := (some 50), op := (Go.Op.index 9 (Go.Operand.tmp 45) (Go.Operand.tmp 49)), type := 5, pos := "expr.go:109", after := #[{ on := 3, ground := Go.Ground.data }, { on := 7, ground := Go.Ground.data }], guard := none }) (v := ?_) rfl (by kernel_rfl) (by kernel_rfl) (by kernel_rfl) (fun _ _ _ h => h) (Or.inl ⟨by rfl, (by intro w hSw; (try dsimp only at hSw); go_simp; try with_reducible rfl)⟩) (by assumption) ?_
    (try simp only [Act.put, List.setIfInBounds_toArray, List.set_cons_zero, List.set_cons_succ])
    refine wpAnyH_take (i := 9) (oi := { dst := (some 51), op := (Go.Op.call { callee := (Go.Callee.builtin Go.Builtin.max), args := #[(Go.Operand.tmp 50), (Go.Operand.const (Go.Value.int Go.IntKind.u8 1))], argTypes := #[5, 5] }), type := 5, pos := "expr.go:109", after := #[{ on := 8, ground := Go.Ground.data }], guard := none }) (v := ?_) rfl (by kernel_rfl) (by kernel_rfl) (by kernel_rfl) (fun _ _ _ h => h) (Or.inl ⟨by rfl, (by intro w hSw; (try dsimp only at hSw); go_simp; try with_reducible rfl)⟩) (by assumption) ?_
    (try simp only [Act.put, List.setIfInBounds_toArray, List.set_cons_zero, List.set_cons_succ])
    refine wpAnyH_take (i := 10) (oi := { dst := (some 2), op := (Go.Op.assign (Go.Operand.tmp 51)), type := 5, pos := "expr.go:109", after := #[{ on := 9, ground := Go.Ground.data }, { on := 0, ground := Go.Ground.phase }, { on := 1, ground := Go.Ground.phase }, { on := 2, ground := Go.Ground.phase }, { on := 3, ground := Go.Ground.phase }, { on := 4, ground := Go.Ground.phase }, { on := 5, ground := Go.Ground.phase }, { on := 6, ground := Go.Ground.phase }, { on := 7, ground := Go.Ground.phase }, { on := 8, ground := Go.Ground.phase }, { on := 9, ground := Go.Ground.phase }], guard := none }) (v := ?_) rfl (by kernel_rfl) (by kernel_rfl) (by kernel_rfl) (fun _ _ _ h => h) (Or.inl ⟨by rfl, (by intro w hSw; (try dsimp only at hSw); go_simp; try with_reducible rfl)⟩) (by assumption) ?_
    (try simp only [Act.put, List.setIfInBounds_toArray, List.set_cons_zero, List.set_cons_succ])
    refine wpAnyH_done (by kernel_rfl) ?_ _
    go_wp2
    go_ret
    exact ⟨rfl, (((Upd.refl _ _).drew).drew).drew⟩
end Go.Proofs.YteeindicpbcjaaaGreatDoor
namespace Go.Proofs.YteeindicpbcjaaaGreatDoor
open Go.RowKit
set_option linter.unusedVariables false
set_option linter.unusedSimpArgs false

theorem set3U (w : World) (rb : Nat) (y0 y1 y2 : Value) : Upd (fun k => k = rb) w (((w.setCell ⟨rb, 0, none⟩ y0).setCell ⟨rb, 1, none⟩ y1).setCell ⟨rb, 2, none⟩ y2) :=
  (((Upd.refl (fun k => k = rb) w).setCell (p := ⟨rb, 0, none⟩) (fun _ => rfl) _).setCell (p := ⟨rb, 1, none⟩) (fun _ => rfl) _).setCell (p := ⟨rb, 2, none⟩) (fun _ => rfl) _
theorem cells3P {w : World} {b : Nat} {x0 x1 x2 : Value} {t : TypeId} (h : w.heap[b]? = some (.cells #[x0, x1, x2] t (0, 0))) :
    (w.cell? ⟨b, 0, none⟩ = some x0 ∧ w.cell? ⟨b, 1, none⟩ = some x1 ∧ w.cell? ⟨b, 2, none⟩ = some x2) ∧ (w.frozen? ⟨b, 0, none⟩ = false ∧ w.frozen? ⟨b, 1, none⟩ = false ∧ w.frozen? ⟨b, 2, none⟩ = false) ∧ b < w.heap.size := by
  refine ⟨⟨?_, ?_, ?_⟩, ⟨?_, ?_, ?_⟩, (Array.getElem?_eq_some_iff.1 h).1⟩
  all_goals first | (unfold World.cell?; simp only [h]; rfl) | simp [World.frozen?, h]

/-- A name in a text: from k to m. -/
structure NameIn (s : ByteArray) (k m : Nat) : Prop where
  lt : k < m
  le : m ≤ s.size
  small : s.size ≤ 1000
  in_ : ∀ i, k ≤ i → i < m → nameB (s.extract i (i + 1)) = true
  out : m < s.size → nameB (s.extract m (m + 1)) = false

set_option maxRecDepth 100000 in
set_option maxHeartbeats 4000000 in
theorem atom_name {w : World} {tb k m : Nat} {s : ByteArray} (h : TB w tb s k) (hn : NameIn s k m) (hk : k < s.size) (h40 : (s[k] == 40) = false) (h32 : (s[k] == 32) = false) (h0 : 1 ≤ s[k].toNat) :
    Calls Tryz.prog 123 #[.pointer (some ⟨tb, 0, none⟩)] w fun r w' => r = .returned (.tuple #[.agg #[.int .i64 1, .string (s.extract k m), .slice none 0 0], .nilIface]) ∧ TB w' tb s m ∧ Upd (fun q => q = tb) w w' := by
  have HN := As.mk hn
  have hks := hn.lt
  have hms := hn.le
  have hsm := hn.small
  have hT1 : Pure w (w.alloc (.cells #[.int .i64 0, .string ⟨#[]⟩, .slice none 0 0] 97)) := Upd.alloc1 _ _ _
  have htbw := h.cells.2.2
  have HNX := As.mk (next_at (h.pure hT1) hk h32 h0 hsm)
  have HT := As.mk (h.pure hT1)
  have hb1 : ((s[k].toNat : Int) == 40) = false := by
    have : s[k] ≠ 40 := by simpa using h40
    simp
    intro h
    apply this
    apply UInt8.toNat_inj.1
    have : s[k].toNat = 40 := by omega
    rw [this]; rfl
  have hb2 : (s[k].toNat == 40) = false := by
    simp at hb1 ⊢
    omega
  clear h hn h40 h32 h0
  go_enter Tryz.func123, Tryz.ntmps123
  go_wp2_with (go_at_call 98; refine HNX.out.mono ?_; rintro e w1 ⟨rfl, hu⟩; have HU1 := As.mk hu; clear hu; apply As.out)
  refine ⟨?_⟩
  have HT1 := As.mk (HT.out.pure HU1.out)
  obtain ⟨⟨c0, c1⟩, f1, htb⟩ := HT1.out.cells
  have hrb0 := (HU1.out.block w.heap.size (by simp) (fun h => h)).trans (heap_alloc_new w _)
  have HRB := As.mk hrb0
  clear hrb0
  go_wp2
  go_loopg [] (m - k) (fun g wr => ∃ i : Nat, i + g = m ∧ k ≤ i ∧ As (TB wr tb s i ∧ Upd (fun q => q = tb) w1 wr))
  case atStart => exact ⟨k, by omega, Nat.le_refl _, ⟨HT1.out, Upd.refl _ _⟩⟩
  case round =>
    obtain ⟨i, hi, hki, HP⟩ := hrel
    clear c0 c1 f1
    obtain ⟨⟨c0, c1⟩, f1, htb2⟩ := HP.out.1.cells
    have c0d : wr.drew.cell? ⟨tb, 0, none⟩ = some (.string s) := c0
    have c1d : wr.drew.cell? ⟨tb, 1, none⟩ = some (.int .i64 i) := c1
    by_cases hlt : i < m
    · obtain ⟨g1, rfl⟩ : ∃ g, gk = g + 1 := ⟨gk - 1, by omega⟩
      have hl1 : ((i : Int) < (s.size : Int)) := by omega
      have hl2 : decide (i < s.size) = true := by simp; omega
      have hl3 : decide ((i : Int) < (s.size : Int)) = true := by simp; omega
      have hwr : IntKind.i64.wrap ((i : Int) + 1) = (i : Int) + 1 := by rw [IntKind.wrap_i64]; omega
      have hx1 : (0 : Int) ≤ (i : Int) + 1 := by omega
      have hx2 : (i : Int) + 1 ≤ (s.size : Int) := by omega
      have hx3 : (i : Int) ≤ (i : Int) + 1 := by omega
      have HI := As.mk hi
      have HNM := As.mk (HN.out.in_ i hki hlt)
      clear hi
      go_wp2
      refine wp_region_held_drew (S := (fun v => v.cell? ⟨tb, 0, none⟩ = some (.string s) ∧ v.cell? ⟨tb, 1, none⟩ = some (.int .i64 i))) (by kernel_rfl) ?_ (fun hHeld => ?_)
      · first | exact ⟨(HUn.out.cell htb2 (fun h => h)).trans c0d, (HUn.out.cell htb2 (fun h => h)).trans c1d⟩ | exact ⟨c0d, c1d⟩
      refine wpAnyH_take (i := 0) (oi := { dst := (some 46), op := (Go.Op.move (Go.Operand.tmp 0)), type := 152, pos := "expr.go:172", after := #[], guard := none }) (v := ?_) rfl (by kernel_rfl) (by kernel_rfl) (by kernel_rfl) (fun _ _ _ h => h) (Or.inl ⟨by rfl, (by intro w hSw; (try dsimp only at hSw); go_simp; try with_reducible rfl)⟩) (by assumption) ?_
      (try simp only [Act.put, List.setIfInBounds_toArray, List.set_cons_zero, List.set_cons_succ])
      refine wpAnyH_take (i := 1) (oi := { dst := (some 47), op := (Go.Op.nilCheck (Go.Operand.tmp 46)), type := 0, pos := "expr.go:172", after := #[{ on := 0, ground := Go.Ground.data }], guard := none }) (v := ?_) rfl (by kernel_rfl) (by kernel_rfl) (by kernel_rfl) (fun _ _ _ h => h) (Or.inl ⟨by rfl, (by intro w hSw; (try dsimp only at hSw); go_simp; try with_reducible rfl)⟩) (by assumption) ?_
      (try simp only [Act.put, List.setIfInBounds_toArray, List.set_cons_zero, List.set_cons_succ])
      refine wpAnyH_take (i := 2) (oi := { dst := (some 48), op := (Go.Op.fieldAddr 154 (Go.Operand.tmp 47) 1), type := 0, pos := "expr.go:172", after := #[{ on := 1, ground := Go.Ground.data }], guard := none }) (v := ?_) rfl (by kernel_rfl) (by kernel_rfl) (by kernel_rfl) (fun _ _ _ h => h) (Or.inl ⟨by rfl, (by intro w hSw; (try dsimp only at hSw); go_simp; try with_reducible rfl)⟩) (by assumption) ?_
      (try simp only [Act.put, List.setIfInBounds_toArray, List.set_cons_zero, List.set_cons_succ])
      refine wpAnyH_take (i := 3) (oi := { dst := (some 49), op := (Go.Op.load 3 (Go.Operand.tmp 48)), type := 3, pos := "expr.go:172", after := #[{ on := 2, ground := Go.Ground.data }], guard := none }) (v := ?_) rfl (by kernel_rfl) (by kernel_rfl) (by kernel_rfl) (fun _ _ _ h => h) (Or.inl ⟨by rfl, (by intro w hSw; (try dsimp only at hSw); go_simp; try with_reducible rfl)⟩) (by assumption) ?_
      (try simp only [Act.put, List.setIfInBounds_toArray, List.set_cons_zero, List.set_cons_succ])
      refine wpAnyH_take (i := 4) (oi := { dst := (some 50), op := (Go.Op.move (Go.Operand.tmp 0)), type := 152, pos := "expr.go:172", after := #[], guard := none }) (v := ?_) rfl (by kernel_rfl) (by kernel_rfl) (by kernel_rfl) (fun _ _ _ h => h) (Or.inl ⟨by rfl, (by intro w hSw; (try dsimp only at hSw); go_simp; try with_reducible rfl)⟩) (by assumption) ?_
      (try simp only [Act.put, List.setIfInBounds_toArray, List.set_cons_zero, List.set_cons_succ])
      refine wpAnyH_take (i := 5) (oi := { dst := (some 51), op := (Go.Op.nilCheck (Go.Operand.tmp 50)), type := 0, pos := "expr.go:172", after := #[{ on := 4, ground := Go.Ground.data }], guard := none }) (v := ?_) rfl (by kernel_rfl) (by kernel_rfl) (by kernel_rfl) (fun _ _ _ h => h) (Or.inl ⟨by rfl, (by intro w hSw; (try dsimp only at hSw); go_simp; try with_reducible rfl)⟩) (by assumption) ?_
      (try simp only [Act.put, List.setIfInBounds_toArray, List.set_cons_zero, List.set_cons_succ])
      refine wpAnyH_take (i := 6) (oi := { dst := (some 52), op := (Go.Op.fieldAddr 154 (Go.Operand.tmp 51) 0), type := 0, pos := "expr.go:172", after := #[{ on := 5, ground := Go.Ground.data }], guard := none }) (v := ?_) rfl (by kernel_rfl) (by kernel_rfl) (by kernel_rfl) (fun _ _ _ h => h) (Or.inl ⟨by rfl, (by intro w hSw; (try dsimp only at hSw); go_simp; try with_reducible rfl)⟩) (by assumption) ?_
      (try simp only [Act.put, List.setIfInBounds_toArray, List.set_cons_zero, List.set_cons_succ])
      refine wpAnyH_take (i := 7) (oi := { dst := (some 53), op := (Go.Op.load 9 (Go.Operand.tmp 52)), type := 9, pos := "expr.go:172", after := #[{ on := 6, ground := Go.Ground.data }], guard := none }) (v := ?_) rfl (by kernel_rfl) (by kernel_rfl) (by kernel_rfl) (fun _ _ _ h => h) (Or.inl ⟨by rfl, (by intro w hSw; (try dsimp only at hSw); go_simp; try with_reducible rfl)⟩) (by assumption) ?_
      (try simp only [Act.put, List.setIfInBounds_toArray, List.set_cons_zero, List.set_cons_succ])
      refine wpAnyH_take (i := 8) (oi := { dst := (some 54), op := (Go.Op.call { callee := (Go.Callee.builtin Go.Builtin.len), args := #[(Go.Operand.tmp 53)], argTypes := #[9] }), type := 3, pos := "expr.go:172", after := #[{ on := 7, ground := Go.Ground.data }], guard := none }) (v := ?_) rfl (by kernel_rfl) (by kernel_rfl) (by kernel_rfl) (fun _ _ _ h => h) (Or.inl ⟨by rfl, (by intro w hSw; (try dsimp only at hSw); go_simp; try with_reducible rfl)⟩) (by assumption) ?_
      (try simp only [Act.put, List.setIfInBounds_toArray, List.set_cons_zero, List.set_cons_succ])
      refine wpAnyH_take (i := 9) (oi := { dst := (some 55), op := (Go.Op.binOp Go.BinOp.lss 3 (Go.Operand.tmp 49) (Go.Operand.tmp 54) 3), type := 4, pos := "expr.go:172", after := #[{ on := 3, ground := Go.Ground.data }, { on := 8, ground := Go.Ground.data }], guard := none }) (v := ?_) rfl (by kernel_rfl) (by kernel_rfl) (by kernel_rfl) (fun _ _ _ h => h) (Or.inl ⟨by rfl, (by intro w hSw; (try dsimp only at hSw); go_simp; try with_reducible rfl)⟩) (by assumption) ?_
      (try simp only [Act.put, List.setIfInBounds_toArray, List.set_cons_zero, List.set_cons_succ])
      refine wpAnyH_take (i := 10) (oi := { dst := (some 56), op := (Go.Op.move (Go.Operand.tmp 55)), type := 4, pos := "expr.go:172", after := #[{ on := 9, ground := Go.Ground.data }], guard := none }) (v := ?_) rfl (by kernel_rfl) (by kernel_rfl) (by kernel_rfl) (fun _ _ _ h => h) (Or.inl ⟨by rfl, (by intro w hSw; (try dsimp only at hSw); go_simp; try with_reducible rfl)⟩) (by assumption) ?_
      (try simp only [Act.put, List.setIfInBounds_toArray, List.set_cons_zero, List.set_cons_succ])
      refine wpAnyH_take (i := 11) (oi := { dst := (some 57), op := (Go.Op.move (Go.Operand.tmp 0)), type := 152, pos := "expr.go:172", after := #[{ on := 10, ground := Go.Ground.guard }], guard := (some (10, true)) }) (v := ?_) rfl (by kernel_rfl) (by kernel_rfl) (by kernel_rfl) (fun _ _ _ h => h) (Or.inl ⟨by rfl, (by intro w hSw; (try dsimp only at hSw); go_simp; try with_reducible rfl)⟩) (by assumption) ?_
      (try simp only [Act.put, List.setIfInBounds_toArray, List.set_cons_zero, List.set_cons_succ])
      refine wpAnyH_take (i := 12) (oi := { dst := (some 58), op := (Go.Op.nilCheck (Go.Operand.tmp 57)), type := 0, pos := "expr.go:172", after := #[{ on := 11, ground := Go.Ground.data }, { on := 10, ground := Go.Ground.guard }], guard := (some (10, true)) }) (v := ?_) rfl (by kernel_rfl) (by kernel_rfl) (by kernel_rfl) (fun _ _ _ h => h) (Or.inl ⟨by rfl, (by intro w hSw; (try dsimp only at hSw); go_simp; try with_reducible rfl)⟩) (by assumption) ?_
      (try simp only [Act.put, List.setIfInBounds_toArray, List.set_cons_zero, List.set_cons_succ])
      refine wpAnyH_take (i := 13) (oi := { dst := (some 59), op := (Go.Op.fieldAddr 154 (Go.Operand.tmp 58) 0), type := 0, pos := "expr.go:172", after := #[{ on := 12, ground := Go.Ground.data }, { on := 10, ground := Go.Ground.guard }], guard := (some (10, true)) }) (v := ?_) rfl (by kernel_rfl) (by kernel_rfl) (by kernel_rfl) (fun _ _ _ h => h) (Or.inl ⟨by rfl, (by intro w hSw; (try dsimp only at hSw); go_simp; try with_reducible rfl)⟩) (by assumption) ?_
      (try simp only [Act.put, List.setIfInBounds_toArray, List.set_cons_zero, List.set_cons_succ])
      refine wpAnyH_take (i := 14) (oi := { dst := (some 60), op := (Go.Op.load 9 (Go.Operand.tmp 59)), type := 9, pos := "expr.go:172", after := #[{ on := 13, ground := Go.Ground.data }, { on := 10, ground := Go.Ground.guard }], guard := (some (10, true)) }) (v := ?_) rfl (by kernel_rfl) (by kernel_rfl) (by kernel_rfl) (fun _ _ _ h => h) (Or.inl ⟨by rfl, (by intro w hSw; (try dsimp only at hSw); go_simp; try with_reducible rfl)⟩) (by assumption) ?_
      (try simp only [Act.put, List.setIfInBounds_toArray, List.set_cons_zero, List.set_cons_succ])
      refine wpAnyH_take (i := 15) (oi := { dst := (some 61), op := (Go.Op.move (Go.Operand.tmp 0)), type := 152, pos := "expr.go:172", after := #[{ on := 10, ground := Go.Ground.guard }], guard := (some (10, true)) }) (v := ?_) rfl (by kernel_rfl) (by kernel_rfl) (by kernel_rfl) (fun _ _ _ h => h) (Or.inl ⟨by rfl, (by intro w hSw; (try dsimp only at hSw); go_simp; try with_reducible rfl)⟩) (by assumption) ?_
      (try simp only [Act.put, List.setIfInBounds_toArray, List.set_cons_zero, List.set_cons_succ])
      refine wpAnyH_take (i := 16) (oi := { dst := (some 62), op := (Go.Op.nilCheck (Go.Operand.tmp 61)), type := 0, pos := "expr.go:172", after := #[{ on := 15, ground := Go.Ground.data }, { on := 10, ground := Go.Ground.guard }], guard := (some (10, true)) }) (v := ?_) rfl (by kernel_rfl) (by kernel_rfl) (by kernel_rfl) (fun _ _ _ h => h) (Or.inl ⟨by rfl, (by intro w hSw; (try dsimp only at hSw); go_simp; try with_reducible rfl)⟩) (by assumption) ?_
      (try simp only [Act.put, List.setIfInBounds_toArray, List.set_cons_zero, List.set_cons_succ])
      refine wpAnyH_take (i := 17) (oi := { dst := (some 63), op := (Go.Op.fieldAddr 154 (Go.Operand.tmp 62) 1), type := 0, pos := "expr.go:172", after := #[{ on := 16, ground := Go.Ground.data }, { on := 10, ground := Go.Ground.guard }], guard := (some (10, true)) }) (v := ?_) rfl (by kernel_rfl) (by kernel_rfl) (by kernel_rfl) (fun _ _ _ h => h) (Or.inl ⟨by rfl, (by intro w hSw; (try dsimp only at hSw); go_simp; try with_reducible rfl)⟩) (by assumption) ?_
      (try simp only [Act.put, List.setIfInBounds_toArray, List.set_cons_zero, List.set_cons_succ])
      refine wpAnyH_take (i := 18) (oi := { dst := (some 64), op := (Go.Op.load 3 (Go.Operand.tmp 63)), type := 3, pos := "expr.go:172", after := #[{ on := 17, ground := Go.Ground.data }, { on := 10, ground := Go.Ground.guard }], guard := (some (10, true)) }) (v := ?_) rfl (by kernel_rfl) (by kernel_rfl) (by kernel_rfl) (fun _ _ _ h => h) (Or.inl ⟨by rfl, (by intro w hSw; (try dsimp only at hSw); go_simp; try with_reducible rfl)⟩) (by assumption) ?_
      (try simp only [Act.put, List.setIfInBounds_toArray, List.set_cons_zero, List.set_cons_succ])
      refine wpAnyH_take (i := 19) (oi := { dst := (some 65), op := (Go.Op.move (Go.Operand.tmp 0)), type := 152, pos := "expr.go:172", after := #[{ on := 10, ground := Go.Ground.guard }], guard := (some (10, true)) }) (v := ?_) rfl (by kernel_rfl) (by kernel_rfl) (by kernel_rfl) (fun _ _ _ h => h) (Or.inl ⟨by rfl, (by intro w hSw; (try dsimp only at hSw); go_simp; try with_reducible rfl)⟩) (by assumption) ?_
      (try simp only [Act.put, List.setIfInBounds_toArray, List.set_cons_zero, List.set_cons_succ])
      refine wpAnyH_take (i := 20) (oi := { dst := (some 66), op := (Go.Op.nilCheck (Go.Operand.tmp 65)), type := 0, pos := "expr.go:172", after := #[{ on := 19, ground := Go.Ground.data }, { on := 10, ground := Go.Ground.guard }], guard := (some (10, true)) }) (v := ?_) rfl (by kernel_rfl) (by kernel_rfl) (by kernel_rfl) (fun _ _ _ h => h) (Or.inl ⟨by rfl, (by intro w hSw; (try dsimp only at hSw); go_simp; try with_reducible rfl)⟩) (by assumption) ?_
      (try simp only [Act.put, List.setIfInBounds_toArray, List.set_cons_zero, List.set_cons_succ])
      refine wpAnyH_take (i := 21) (oi := { dst := (some 67), op := (Go.Op.fieldAddr 154 (Go.Operand.tmp 66) 1), type := 0, pos := "expr.go:172", after := #[{ on := 20, ground := Go.Ground.data }, { on := 10, ground := Go.Ground.guard }], guard := (some (10, true)) }) (v := ?_) rfl (by kernel_rfl) (by kernel_rfl) (by kernel_rfl) (fun _ _ _ h => h) (Or.inl ⟨by rfl, (by intro w hSw; (try dsimp only at hSw); go_simp; try with_reducible rfl)⟩) (by assumption) ?_
      (try simp only [Act.put, List.setIfInBounds_toArray, List.set_cons_zero, List.set_cons_succ])
      refine wpAnyH_take (i := 22) (oi := { dst := (some 68), op := (Go.Op.load 3 (Go.Operand.tmp 67)), type := 3, pos := "expr.go:172", after := #[{ on := 21, ground := Go.Ground.data }, { on := 10, ground := Go.Ground.guard }], guard := (some (10, true)) }) (v := ?_) rfl (by kernel_rfl) (by kernel_rfl) (by kernel_rfl) (fun _ _ _ h => h) (Or.inl ⟨by rfl, (by intro w hSw; (try dsimp only at hSw); go_simp; try with_reducible rfl)⟩) (by assumption) ?_
      (try simp only [Act.put, List.setIfInBounds_toArray, List.set_cons_zero, List.set_cons_succ])
      refine wpAnyH_take (i := 23) (oi := { dst := (some 69), op := (Go.Op.binOp Go.BinOp.add 3 (Go.Operand.tmp 68) (Go.Operand.const (Go.Value.int Go.IntKind.i64 1)) 3), type := 3, pos := "expr.go:172", after := #[{ on := 22, ground := Go.Ground.data }, { on := 10, ground := Go.Ground.guard }], guard := (some (10, true)) }) (v := ?_) rfl (by kernel_rfl) (by kernel_rfl) (by kernel_rfl) (fun _ _ _ h => h) (Or.inl ⟨by rfl, (by intro w hSw; (try dsimp only at hSw); go_simp; try with_reducible rfl)⟩) (by assumption) ?_
      (try simp only [Act.put, List.setIfInBounds_toArray, List.set_cons_zero, List.set_cons_succ])
      refine wpAnyH_take (i := 24) (oi := { dst := (some 70), op := (Go.Op.slice 9 (Go.Operand.tmp 60) (some (Go.Operand.tmp 64)) (some (Go.Operand.tmp 69)) none), type := 9, pos := "expr.go:172", after := #[{ on := 14, ground := Go.Ground.data }, { on := 18, ground := Go.Ground.data }, { on := 23, ground := Go.Ground.data }, { on := 10, ground := Go.Ground.guard }], guard := (some (10, true)) }) (v := ?_) rfl (by kernel_rfl) (by kernel_rfl) (by kernel_rfl) (fun _ _ _ h => h) (Or.inl ⟨by rfl, (by intro w hSw; (try dsimp only at hSw); go_simp; try with_reducible rfl)⟩) (by assumption) ?_
      (try simp only [Act.put, List.setIfInBounds_toArray, List.set_cons_zero, List.set_cons_succ])
      refine wpAnyH_ready (rs := [25]) (by kernel_rfl) (by simp) (AllReadyH.cons (o := { dst := (some 71), op := (Go.Op.call { callee := (Go.Callee.value (Go.Operand.func 85)), args := #[(Go.Operand.tmp 70)], argTypes := #[9] }), type := 4, pos := "expr.go:172", after := #[{ on := 24, ground := Go.Ground.data }, { on := 10, ground := Go.Ground.chain }, { on := 10, ground := Go.Ground.guard }], guard := (some (10, true)) }) rfl (fun K hK => ?_) AllReadyH.nil)
      go_simp
      (go_at_call 85; refine (Name_calls (s.extract i (i + 1)) _ (by simp; omega)).mono ?_; rintro e wn ⟨rfl, hu⟩; rw [HNM.out]; have HUn := As.mk (show Pure wr.drew wn from hu); clear hu)
      refine hK.out _ _ (by first | exact ⟨(HUn.out.cell htb2 (fun h => h)).trans c0d, (HUn.out.cell htb2 (fun h => h)).trans c1d⟩ | exact ⟨c0d, c1d⟩) (fun hHeld => ?_)
      clear hK K
      (try simp only [Act.put, List.setIfInBounds_toArray, List.set_cons_zero, List.set_cons_succ])
      refine wpAnyH_take (i := 26) (oi := { dst := (some 72), op := (Go.Op.pick (Go.Operand.tmp 56) (Go.Operand.tmp 71) (Go.Operand.const (Go.Value.bool false))), type := 4, pos := "expr.go:172", after := #[{ on := 10, ground := Go.Ground.data }, { on := 25, ground := Go.Ground.data }], guard := none }) (v := ?_) rfl (by kernel_rfl) (by kernel_rfl) (by kernel_rfl) (fun _ _ _ h => h) (Or.inl ⟨by rfl, (by intro w hSw; (try dsimp only at hSw); go_simp; try with_reducible rfl)⟩) (by assumption) ?_
      (try simp only [Act.put, List.setIfInBounds_toArray, List.set_cons_zero, List.set_cons_succ])
      refine wpAnyH_done (by kernel_rfl) ?_ _
      obtain ⟨⟨n0, n1⟩, nf1, ntb⟩ := (HP.out.1.pure ((Upd.refl (fun _ => False) wr).drew.trans HUn.out (fun _ _ h => h))).cells
      go_wp2
      go_roundg g1
      case measure => omega
      case rel =>
        have hT2 := (HP.out.1.pure ((Upd.refl (fun _ => False) wr).drew.trans HUn.out (fun _ _ h => h))).set (i + 1)
        exact ⟨i + 1, by have := HI.out; omega, by omega, ⟨hT2, (HP.out.2.trans ((Upd.refl (fun _ => False) wr).drew.trans HUn.out (fun _ _ h => h)) (fun _ _ h => h.elim)).setCell (p := ⟨tb, 1, none⟩) (fun _ => rfl) _⟩⟩
    · have him : i = m := by omega
      have hik : ((i : Int) == (k : Int)) = false := by simp; omega
      have hik2 : (i == k) = false := by simp; omega
      have hsl1 : (0 : Int) ≤ (i : Int) := by omega
      have hsl2 : (i : Int) ≤ (s.size : Int) := by omega
      have hsl3 : (k : Int) ≤ (i : Int) := by omega
      by_cases hend : i < s.size
      · have hl1 : ((i : Int) < (s.size : Int)) := by omega
        have hl2 : decide (i < s.size) = true := by simp; omega
        have hl3 : decide ((i : Int) < (s.size : Int)) = true := by simp; omega
        have hwr : IntKind.i64.wrap ((i : Int) + 1) = (i : Int) + 1 := by rw [IntKind.wrap_i64]; omega
        have hx1 : (0 : Int) ≤ (i : Int) + 1 := by omega
        have hx2 : (i : Int) + 1 ≤ (s.size : Int) := by omega
        have hx3 : (i : Int) ≤ (i : Int) + 1 := by omega
        have HNM : As (nameB (s.extract i (i + 1)) = false) := ⟨by rw [him]; exact HN.out.out (by omega)⟩
        have HIM := As.mk him
        clear him
        go_wp2
        refine wp_region_held_drew (S := (fun v => v.cell? ⟨tb, 0, none⟩ = some (.string s) ∧ v.cell? ⟨tb, 1, none⟩ = some (.int .i64 i))) (by kernel_rfl) ?_ (fun hHeld => ?_)
        · first | exact ⟨(HUn.out.cell htb2 (fun h => h)).trans c0d, (HUn.out.cell htb2 (fun h => h)).trans c1d⟩ | exact ⟨c0d, c1d⟩
        refine wpAnyH_take (i := 0) (oi := { dst := (some 46), op := (Go.Op.move (Go.Operand.tmp 0)), type := 152, pos := "expr.go:172", after := #[], guard := none }) (v := ?_) rfl (by kernel_rfl) (by kernel_rfl) (by kernel_rfl) (fun _ _ _ h => h) (Or.inl ⟨by rfl, (by intro w hSw; (try dsimp only at hSw); go_simp; try with_reducible rfl)⟩) (by assumption) ?_
        (try simp only [Act.put, List.setIfInBounds_toArray, List.set_cons_zero, List.set_cons_succ])
        refine wpAnyH_take (i := 1) (oi := { dst := (some 47), op := (Go.Op.nilCheck (Go.Operand.tmp 46)), type := 0, pos := "expr.go:172", after := #[{ on := 0, ground := Go.Ground.data }], guard := none }) (v := ?_) rfl (by kernel_rfl) (by kernel_rfl) (by kernel_rfl) (fun _ _ _ h => h) (Or.inl ⟨by rfl, (by intro w hSw; (try dsimp only at hSw); go_simp; try with_reducible rfl)⟩) (by assumption) ?_
        (try simp only [Act.put, List.setIfInBounds_toArray, List.set_cons_zero, List.set_cons_succ])
        refine wpAnyH_take (i := 2) (oi := { dst := (some 48), op := (Go.Op.fieldAddr 154 (Go.Operand.tmp 47) 1), type := 0, pos := "expr.go:172", after := #[{ on := 1, ground := Go.Ground.data }], guard := none }) (v := ?_) rfl (by kernel_rfl) (by kernel_rfl) (by kernel_rfl) (fun _ _ _ h => h) (Or.inl ⟨by rfl, (by intro w hSw; (try dsimp only at hSw); go_simp; try with_reducible rfl)⟩) (by assumption) ?_
        (try simp only [Act.put, List.setIfInBounds_toArray, List.set_cons_zero, List.set_cons_succ])
        refine wpAnyH_take (i := 3) (oi := { dst := (some 49), op := (Go.Op.load 3 (Go.Operand.tmp 48)), type := 3, pos := "expr.go:172", after := #[{ on := 2, ground := Go.Ground.data }], guard := none }) (v := ?_) rfl (by kernel_rfl) (by kernel_rfl) (by kernel_rfl) (fun _ _ _ h => h) (Or.inl ⟨by rfl, (by intro w hSw; (try dsimp only at hSw); go_simp; try with_reducible rfl)⟩) (by assumption) ?_
        (try simp only [Act.put, List.setIfInBounds_toArray, List.set_cons_zero, List.set_cons_succ])
        refine wpAnyH_take (i := 4) (oi := { dst := (some 50), op := (Go.Op.move (Go.Operand.tmp 0)), type := 152, pos := "expr.go:172", after := #[], guard := none }) (v := ?_) rfl (by kernel_rfl) (by kernel_rfl) (by kernel_rfl) (fun _ _ _ h => h) (Or.inl ⟨by rfl, (by intro w hSw; (try dsimp only at hSw); go_simp; try with_reducible rfl)⟩) (by assumption) ?_
        (try simp only [Act.put, List.setIfInBounds_toArray, List.set_cons_zero, List.set_cons_succ])
        refine wpAnyH_take (i := 5) (oi := { dst := (some 51), op := (Go.Op.nilCheck (Go.Operand.tmp 50)), type := 0, pos := "expr.go:172", after := #[{ on := 4, ground := Go.Ground.data }], guard := none }) (v := ?_) rfl (by kernel_rfl) (by kernel_rfl) (by kernel_rfl) (fun _ _ _ h => h) (Or.inl ⟨by rfl, (by intro w hSw; (try dsimp only at hSw); go_simp; try with_reducible rfl)⟩) (by assumption) ?_
        (try simp only [Act.put, List.setIfInBounds_toArray, List.set_cons_zero, List.set_cons_succ])
        refine wpAnyH_take (i := 6) (oi := { dst := (some 52), op := (Go.Op.fieldAddr 154 (Go.Operand.tmp 51) 0), type := 0, pos := "expr.go:172", after := #[{ on := 5, ground := Go.Ground.data }], guard := none }) (v := ?_) rfl (by kernel_rfl) (by kernel_rfl) (by kernel_rfl) (fun _ _ _ h => h) (Or.inl ⟨by rfl, (by intro w hSw; (try dsimp only at hSw); go_simp; try with_reducible rfl)⟩) (by assumption) ?_
        (try simp only [Act.put, List.setIfInBounds_toArray, List.set_cons_zero, List.set_cons_succ])
        refine wpAnyH_take (i := 7) (oi := { dst := (some 53), op := (Go.Op.load 9 (Go.Operand.tmp 52)), type := 9, pos := "expr.go:172", after := #[{ on := 6, ground := Go.Ground.data }], guard := none }) (v := ?_) rfl (by kernel_rfl) (by kernel_rfl) (by kernel_rfl) (fun _ _ _ h => h) (Or.inl ⟨by rfl, (by intro w hSw; (try dsimp only at hSw); go_simp; try with_reducible rfl)⟩) (by assumption) ?_
        (try simp only [Act.put, List.setIfInBounds_toArray, List.set_cons_zero, List.set_cons_succ])
        refine wpAnyH_take (i := 8) (oi := { dst := (some 54), op := (Go.Op.call { callee := (Go.Callee.builtin Go.Builtin.len), args := #[(Go.Operand.tmp 53)], argTypes := #[9] }), type := 3, pos := "expr.go:172", after := #[{ on := 7, ground := Go.Ground.data }], guard := none }) (v := ?_) rfl (by kernel_rfl) (by kernel_rfl) (by kernel_rfl) (fun _ _ _ h => h) (Or.inl ⟨by rfl, (by intro w hSw; (try dsimp only at hSw); go_simp; try with_reducible rfl)⟩) (by assumption) ?_
        (try simp only [Act.put, List.setIfInBounds_toArray, List.set_cons_zero, List.set_cons_succ])
        refine wpAnyH_take (i := 9) (oi := { dst := (some 55), op := (Go.Op.binOp Go.BinOp.lss 3 (Go.Operand.tmp 49) (Go.Operand.tmp 54) 3), type := 4, pos := "expr.go:172", after := #[{ on := 3, ground := Go.Ground.data }, { on := 8, ground := Go.Ground.data }], guard := none }) (v := ?_) rfl (by kernel_rfl) (by kernel_rfl) (by kernel_rfl) (fun _ _ _ h => h) (Or.inl ⟨by rfl, (by intro w hSw; (try dsimp only at hSw); go_simp; try with_reducible rfl)⟩) (by assumption) ?_
        (try simp only [Act.put, List.setIfInBounds_toArray, List.set_cons_zero, List.set_cons_succ])
        refine wpAnyH_take (i := 10) (oi := { dst := (some 56), op := (Go.Op.move (Go.Operand.tmp 55)), type := 4, pos := "expr.go:172", after := #[{ on := 9, ground := Go.Ground.data }], guard := none }) (v := ?_) rfl (by kernel_rfl) (by kernel_rfl) (by kernel_rfl) (fun _ _ _ h => h) (Or.inl ⟨by rfl, (by intro w hSw; (try dsimp only at hSw); go_simp; try with_reducible rfl)⟩) (by assumption) ?_
        (try simp only [Act.put, List.setIfInBounds_toArray, List.set_cons_zero, List.set_cons_succ])
        refine wpAnyH_take (i := 11) (oi := { dst := (some 57), op := (Go.Op.move (Go.Operand.tmp 0)), type := 152, pos := "expr.go:172", after := #[{ on := 10, ground := Go.Ground.guard }], guard := (some (10, true)) }) (v := ?_) rfl (by kernel_rfl) (by kernel_rfl) (by kernel_rfl) (fun _ _ _ h => h) (Or.inl ⟨by rfl, (by intro w hSw; (try dsimp only at hSw); go_simp; try with_reducible rfl)⟩) (by assumption) ?_
        (try simp only [Act.put, List.setIfInBounds_toArray, List.set_cons_zero, List.set_cons_succ])
        refine wpAnyH_take (i := 12) (oi := { dst := (some 58), op := (Go.Op.nilCheck (Go.Operand.tmp 57)), type := 0, pos := "expr.go:172", after := #[{ on := 11, ground := Go.Ground.data }, { on := 10, ground := Go.Ground.guard }], guard := (some (10, true)) }) (v := ?_) rfl (by kernel_rfl) (by kernel_rfl) (by kernel_rfl) (fun _ _ _ h => h) (Or.inl ⟨by rfl, (by intro w hSw; (try dsimp only at hSw); go_simp; try with_reducible rfl)⟩) (by assumption) ?_
        (try simp only [Act.put, List.setIfInBounds_toArray, List.set_cons_zero, List.set_cons_succ])
        refine wpAnyH_take (i := 13) (oi := { dst := (some 59), op := (Go.Op.fieldAddr 154 (Go.Operand.tmp 58) 0), type := 0, pos := "expr.go:172", after := #[{ on := 12, ground := Go.Ground.data }, { on := 10, ground := Go.Ground.guard }], guard := (some (10, true)) }) (v := ?_) rfl (by kernel_rfl) (by kernel_rfl) (by kernel_rfl) (fun _ _ _ h => h) (Or.inl ⟨by rfl, (by intro w hSw; (try dsimp only at hSw); go_simp; try with_reducible rfl)⟩) (by assumption) ?_
        (try simp only [Act.put, List.setIfInBounds_toArray, List.set_cons_zero, List.set_cons_succ])
        refine wpAnyH_take (i := 14) (oi := { dst := (some 60), op := (Go.Op.load 9 (Go.Operand.tmp 59)), type := 9, pos := "expr.go:172", after := #[{ on := 13, ground := Go.Ground.data }, { on := 10, ground := Go.Ground.guard }], guard := (some (10, true)) }) (v := ?_) rfl (by kernel_rfl) (by kernel_rfl) (by kernel_rfl) (fun _ _ _ h => h) (Or.inl ⟨by rfl, (by intro w hSw; (try dsimp only at hSw); go_simp; try with_reducible rfl)⟩) (by assumption) ?_
        (try simp only [Act.put, List.setIfInBounds_toArray, List.set_cons_zero, List.set_cons_succ])
        refine wpAnyH_take (i := 15) (oi := { dst := (some 61), op := (Go.Op.move (Go.Operand.tmp 0)), type := 152, pos := "expr.go:172", after := #[{ on := 10, ground := Go.Ground.guard }], guard := (some (10, true)) }) (v := ?_) rfl (by kernel_rfl) (by kernel_rfl) (by kernel_rfl) (fun _ _ _ h => h) (Or.inl ⟨by rfl, (by intro w hSw; (try dsimp only at hSw); go_simp; try with_reducible rfl)⟩) (by assumption) ?_
        (try simp only [Act.put, List.setIfInBounds_toArray, List.set_cons_zero, List.set_cons_succ])
        refine wpAnyH_take (i := 16) (oi := { dst := (some 62), op := (Go.Op.nilCheck (Go.Operand.tmp 61)), type := 0, pos := "expr.go:172", after := #[{ on := 15, ground := Go.Ground.data }, { on := 10, ground := Go.Ground.guard }], guard := (some (10, true)) }) (v := ?_) rfl (by kernel_rfl) (by kernel_rfl) (by kernel_rfl) (fun _ _ _ h => h) (Or.inl ⟨by rfl, (by intro w hSw; (try dsimp only at hSw); go_simp; try with_reducible rfl)⟩) (by assumption) ?_
        (try simp only [Act.put, List.setIfInBounds_toArray, List.set_cons_zero, List.set_cons_succ])
        refine wpAnyH_take (i := 17) (oi := { dst := (some 63), op := (Go.Op.fieldAddr 154 (Go.Operand.tmp 62) 1), type := 0, pos := "expr.go:172", after := #[{ on := 16, ground := Go.Ground.data }, { on := 10, ground := Go.Ground.guard }], guard := (some (10, true)) }) (v := ?_) rfl (by kernel_rfl) (by kernel_rfl) (by kernel_rfl) (fun _ _ _ h => h) (Or.inl ⟨by rfl, (by intro w hSw; (try dsimp only at hSw); go_simp; try with_reducible rfl)⟩) (by assumption) ?_
        (try simp only [Act.put, List.setIfInBounds_toArray, List.set_cons_zero, List.set_cons_succ])
        refine wpAnyH_take (i := 18) (oi := { dst := (some 64), op := (Go.Op.load 3 (Go.Operand.tmp 63)), type := 3, pos := "expr.go:172", after := #[{ on := 17, ground := Go.Ground.data }, { on := 10, ground := Go.Ground.guard }], guard := (some (10, true)) }) (v := ?_) rfl (by kernel_rfl) (by kernel_rfl) (by kernel_rfl) (fun _ _ _ h => h) (Or.inl ⟨by rfl, (by intro w hSw; (try dsimp only at hSw); go_simp; try with_reducible rfl)⟩) (by assumption) ?_
        (try simp only [Act.put, List.setIfInBounds_toArray, List.set_cons_zero, List.set_cons_succ])
        refine wpAnyH_take (i := 19) (oi := { dst := (some 65), op := (Go.Op.move (Go.Operand.tmp 0)), type := 152, pos := "expr.go:172", after := #[{ on := 10, ground := Go.Ground.guard }], guard := (some (10, true)) }) (v := ?_) rfl (by kernel_rfl) (by kernel_rfl) (by kernel_rfl) (fun _ _ _ h => h) (Or.inl ⟨by rfl, (by intro w hSw; (try dsimp only at hSw); go_simp; try with_reducible rfl)⟩) (by assumption) ?_
        (try simp only [Act.put, List.setIfInBounds_toArray, List.set_cons_zero, List.set_cons_succ])
        refine wpAnyH_take (i := 20) (oi := { dst := (some 66), op := (Go.Op.nilCheck (Go.Operand.tmp 65)), type := 0, pos := "expr.go:172", after := #[{ on := 19, ground := Go.Ground.data }, { on := 10, ground := Go.Ground.guard }], guard := (some (10, true)) }) (v := ?_) rfl (by kernel_rfl) (by kernel_rfl) (by kernel_rfl) (fun _ _ _ h => h) (Or.inl ⟨by rfl, (by intro w hSw; (try dsimp only at hSw); go_simp; try with_reducible rfl)⟩) (by assumption) ?_
        (try simp only [Act.put, List.setIfInBounds_toArray, List.set_cons_zero, List.set_cons_succ])
        refine wpAnyH_take (i := 21) (oi := { dst := (some 67), op := (Go.Op.fieldAddr 154 (Go.Operand.tmp 66) 1), type := 0, pos := "expr.go:172", after := #[{ on := 20, ground := Go.Ground.data }, { on := 10, ground := Go.Ground.guard }], guard := (some (10, true)) }) (v := ?_) rfl (by kernel_rfl) (by kernel_rfl) (by kernel_rfl) (fun _ _ _ h => h) (Or.inl ⟨by rfl, (by intro w hSw; (try dsimp only at hSw); go_simp; try with_reducible rfl)⟩) (by assumption) ?_
        (try simp only [Act.put, List.setIfInBounds_toArray, List.set_cons_zero, List.set_cons_succ])
        refine wpAnyH_take (i := 22) (oi := { dst := (some 68), op := (Go.Op.load 3 (Go.Operand.tmp 67)), type := 3, pos := "expr.go:172", after := #[{ on := 21, ground := Go.Ground.data }, { on := 10, ground := Go.Ground.guard }], guard := (some (10, true)) }) (v := ?_) rfl (by kernel_rfl) (by kernel_rfl) (by kernel_rfl) (fun _ _ _ h => h) (Or.inl ⟨by rfl, (by intro w hSw; (try dsimp only at hSw); go_simp; try with_reducible rfl)⟩) (by assumption) ?_
        (try simp only [Act.put, List.setIfInBounds_toArray, List.set_cons_zero, List.set_cons_succ])
        refine wpAnyH_take (i := 23) (oi := { dst := (some 69), op := (Go.Op.binOp Go.BinOp.add 3 (Go.Operand.tmp 68) (Go.Operand.const (Go.Value.int Go.IntKind.i64 1)) 3), type := 3, pos := "expr.go:172", after := #[{ on := 22, ground := Go.Ground.data }, { on := 10, ground := Go.Ground.guard }], guard := (some (10, true)) }) (v := ?_) rfl (by kernel_rfl) (by kernel_rfl) (by kernel_rfl) (fun _ _ _ h => h) (Or.inl ⟨by rfl, (by intro w hSw; (try dsimp only at hSw); go_simp; try with_reducible rfl)⟩) (by assumption) ?_
        (try simp only [Act.put, List.setIfInBounds_toArray, List.set_cons_zero, List.set_cons_succ])
        refine wpAnyH_take (i := 24) (oi := { dst := (some 70), op := (Go.Op.slice 9 (Go.Operand.tmp 60) (some (Go.Operand.tmp 64)) (some (Go.Operand.tmp 69)) none), type := 9, pos := "expr.go:172", after := #[{ on := 14, ground := Go.Ground.data }, { on := 18, ground := Go.Ground.data }, { on := 23, ground := Go.Ground.data }, { on := 10, ground := Go.Ground.guard }], guard := (some (10, true)) }) (v := ?_) rfl (by kernel_rfl) (by kernel_rfl) (by kernel_rfl) (fun _ _ _ h => h) (Or.inl ⟨by rfl, (by intro w hSw; (try dsimp only at hSw); go_simp; try with_reducible rfl)⟩) (by assumption) ?_
        (try simp only [Act.put, List.setIfInBounds_toArray, List.set_cons_zero, List.set_cons_succ])
        refine wpAnyH_ready (rs := [25]) (by kernel_rfl) (by simp) (AllReadyH.cons (o := { dst := (some 71), op := (Go.Op.call { callee := (Go.Callee.value (Go.Operand.func 85)), args := #[(Go.Operand.tmp 70)], argTypes := #[9] }), type := 4, pos := "expr.go:172", after := #[{ on := 24, ground := Go.Ground.data }, { on := 10, ground := Go.Ground.chain }, { on := 10, ground := Go.Ground.guard }], guard := (some (10, true)) }) rfl (fun K hK => ?_) AllReadyH.nil)
        go_simp
        (go_at_call 85; refine (Name_calls (s.extract i (i + 1)) _ (by simp; omega)).mono ?_; rintro e wn ⟨rfl, hu⟩; rw [HNM.out]; have HUn := As.mk (show Pure wr.drew wn from hu); clear hu)
        refine hK.out _ _ (by first | exact ⟨(HUn.out.cell htb2 (fun h => h)).trans c0d, (HUn.out.cell htb2 (fun h => h)).trans c1d⟩ | exact ⟨c0d, c1d⟩) (fun hHeld => ?_)
        clear hK K
        (try simp only [Act.put, List.setIfInBounds_toArray, List.set_cons_zero, List.set_cons_succ])
        refine wpAnyH_take (i := 26) (oi := { dst := (some 72), op := (Go.Op.pick (Go.Operand.tmp 56) (Go.Operand.tmp 71) (Go.Operand.const (Go.Value.bool false))), type := 4, pos := "expr.go:172", after := #[{ on := 10, ground := Go.Ground.data }, { on := 25, ground := Go.Ground.data }], guard := none }) (v := ?_) rfl (by kernel_rfl) (by kernel_rfl) (by kernel_rfl) (fun _ _ _ h => h) (Or.inl ⟨by rfl, (by intro w hSw; (try dsimp only at hSw); go_simp; try with_reducible rfl)⟩) (by assumption) ?_
        (try simp only [Act.put, List.setIfInBounds_toArray, List.set_cons_zero, List.set_cons_succ])
        refine wpAnyH_done (by kernel_rfl) ?_ _
        have HW9 := As.mk ((Upd.refl (fun _ => False) wr).drew.trans HUn.out (fun _ _ h => h))
        obtain ⟨⟨n0, n1⟩, nf1, ntb⟩ := (HP.out.1.pure HW9.out).cells
        have hrb : wn.heap[w.heap.size]? = some (.cells #[.int .i64 0, .string ⟨#[]⟩, .slice none 0 0] 97 (0, 0)) := ((HW9.out.block _ (by have := HP.out.2.size; have := (Array.getElem?_eq_some_iff.1 HRB.out).1; omega) (fun h => h)).trans (HP.out.2.block _ (Array.getElem?_eq_some_iff.1 HRB.out).1 (by omega))).trans HRB.out
        obtain ⟨⟨r0, r1, r2⟩, ⟨rf0, rf1, rf2⟩, hrl⟩ := cells3P hrb
        have n0d : wn.drew.cell? ⟨tb, 0, none⟩ = some (.string s) := n0
        have n1d : wn.drew.cell? ⟨tb, 1, none⟩ = some (.int .i64 i) := n1
        have hne : ¬ tb = w.heap.size := by omega
        go_wp2
        refine wp_region_T (P := Tryz.prog) (fun v => (v.cell? ⟨tb, 0, none⟩ = some (.string s) ∧ v.cell? ⟨tb, 1, none⟩ = some (.int .i64 i)) ∧ v.frozen? ⟨w.heap.size, 0, none⟩ = false ∧ v.frozen? ⟨w.heap.size, 1, none⟩ = false ∧ v.frozen? ⟨w.heap.size, 2, none⟩ = false) 12 (by kernel_rfl) ?_ (fun hHeld => ?_)
        · first | exact ⟨⟨((set3U _ w.heap.size _ _ _).cell ntb hne).trans n0d, ((set3U _ w.heap.size _ _ _).cell ntb hne).trans n1d⟩, by simp [World.frozen?_setCell, rf0], by simp [World.frozen?_setCell, rf1], by simp [World.frozen?_setCell, rf2]⟩ | exact ⟨⟨n0d, n1d⟩, rf0, rf1, rf2⟩
        refine wpAnyT_take (i := 0) (oi := { dst := (some 89), op := (Go.Op.move (Go.Operand.tmp 0)), type := 152, pos := "expr.go:178", after := #[], guard := none }) (v := ?_) rfl (by kernel_rfl) (by kernel_rfl) (by kernel_rfl) (by kernel_rfl) (fun _ _ _ h => h) (Or.inl ⟨by rfl, (by intro w hSw; (try dsimp only at hSw); go_simp; try with_reducible rfl)⟩) (by assumption) ?_
        (try simp only [Act.put, List.setIfInBounds_toArray, List.set_cons_zero, List.set_cons_succ])
        refine wpAnyT_take (i := 1) (oi := { dst := (some 90), op := (Go.Op.nilCheck (Go.Operand.tmp 89)), type := 0, pos := "expr.go:178", after := #[{ on := 0, ground := Go.Ground.data }], guard := none }) (v := ?_) rfl (by kernel_rfl) (by kernel_rfl) (by kernel_rfl) (by kernel_rfl) (fun _ _ _ h => h) (Or.inl ⟨by rfl, (by intro w hSw; (try dsimp only at hSw); go_simp; try with_reducible rfl)⟩) (by assumption) ?_
        (try simp only [Act.put, List.setIfInBounds_toArray, List.set_cons_zero, List.set_cons_succ])
        refine wpAnyT_take (i := 2) (oi := { dst := (some 91), op := (Go.Op.fieldAddr 154 (Go.Operand.tmp 90) 0), type := 0, pos := "expr.go:178", after := #[{ on := 1, ground := Go.Ground.data }], guard := none }) (v := ?_) rfl (by kernel_rfl) (by kernel_rfl) (by kernel_rfl) (by kernel_rfl) (fun _ _ _ h => h) (Or.inl ⟨by rfl, (by intro w hSw; (try dsimp only at hSw); go_simp; try with_reducible rfl)⟩) (by assumption) ?_
        (try simp only [Act.put, List.setIfInBounds_toArray, List.set_cons_zero, List.set_cons_succ])
        refine wpAnyT_take (i := 3) (oi := { dst := (some 92), op := (Go.Op.load 9 (Go.Operand.tmp 91)), type := 9, pos := "expr.go:178", after := #[{ on := 2, ground := Go.Ground.data }], guard := none }) (v := ?_) rfl (by kernel_rfl) (by kernel_rfl) (by kernel_rfl) (by kernel_rfl) (fun _ _ _ h => h) (Or.inl ⟨by rfl, (by intro w hSw; (try dsimp only at hSw); go_simp; try with_reducible rfl)⟩) (by assumption) ?_
        (try simp only [Act.put, List.setIfInBounds_toArray, List.set_cons_zero, List.set_cons_succ])
        refine wpAnyT_take (i := 4) (oi := { dst := (some 93), op := (Go.Op.move (Go.Operand.tmp 5)), type := 3, pos := "expr.go:178", after := #[], guard := none }) (v := ?_) rfl (by kernel_rfl) (by kernel_rfl) (by kernel_rfl) (by kernel_rfl) (fun _ _ _ h => h) (Or.inl ⟨by rfl, (by intro w hSw; (try dsimp only at hSw); go_simp; try with_reducible rfl)⟩) (by assumption) ?_
        (try simp only [Act.put, List.setIfInBounds_toArray, List.set_cons_zero, List.set_cons_succ])
        refine wpAnyT_take (i := 5) (oi := { dst := (some 94), op := (Go.Op.move (Go.Operand.tmp 0)), type := 152, pos := "expr.go:178", after := #[], guard := none }) (v := ?_) rfl (by kernel_rfl) (by kernel_rfl) (by kernel_rfl) (by kernel_rfl) (fun _ _ _ h => h) (Or.inl ⟨by rfl, (by intro w hSw; (try dsimp only at hSw); go_simp; try with_reducible rfl)⟩) (by assumption) ?_
        (try simp only [Act.put, List.setIfInBounds_toArray, List.set_cons_zero, List.set_cons_succ])
        refine wpAnyT_take (i := 6) (oi := { dst := (some 95), op := (Go.Op.nilCheck (Go.Operand.tmp 94)), type := 0, pos := "expr.go:178", after := #[{ on := 5, ground := Go.Ground.data }], guard := none }) (v := ?_) rfl (by kernel_rfl) (by kernel_rfl) (by kernel_rfl) (by kernel_rfl) (fun _ _ _ h => h) (Or.inl ⟨by rfl, (by intro w hSw; (try dsimp only at hSw); go_simp; try with_reducible rfl)⟩) (by assumption) ?_
        (try simp only [Act.put, List.setIfInBounds_toArray, List.set_cons_zero, List.set_cons_succ])
        refine wpAnyT_take (i := 7) (oi := { dst := (some 96), op := (Go.Op.fieldAddr 154 (Go.Operand.tmp 95) 1), type := 0, pos := "expr.go:178", after := #[{ on := 6, ground := Go.Ground.data }], guard := none }) (v := ?_) rfl (by kernel_rfl) (by kernel_rfl) (by kernel_rfl) (by kernel_rfl) (fun _ _ _ h => h) (Or.inl ⟨by rfl, (by intro w hSw; (try dsimp only at hSw); go_simp; try with_reducible rfl)⟩) (by assumption) ?_
        (try simp only [Act.put, List.setIfInBounds_toArray, List.set_cons_zero, List.set_cons_succ])
        refine wpAnyT_take (i := 8) (oi := { dst := (some 97), op := (Go.Op.load 3 (Go.Operand.tmp 96)), type := 3, pos := "expr.go:178", after := #[{ on := 7, ground := Go.Ground.data }], guard := none }) (v := ?_) rfl (by kernel_rfl) (by kernel_rfl) (by kernel_rfl) (by kernel_rfl) (fun _ _ _ h => h) (Or.inl ⟨by rfl, (by intro w hSw; (try dsimp only at hSw); go_simp; try with_reducible rfl)⟩) (by assumption) ?_
        (try simp only [Act.put, List.setIfInBounds_toArray, List.set_cons_zero, List.set_cons_succ])
        refine wpAnyT_take (i := 9) (oi := { dst := (some 98), op := (Go.Op.slice 9 (Go.Operand.tmp 92) (some (Go.Operand.tmp 93)) (some (Go.Operand.tmp 97)) none), type := 9, pos := "expr.go:178", after := #[{ on := 3, ground := Go.Ground.data }, { on := 4, ground := Go.Ground.data }, { on := 8, ground := Go.Ground.data }], guard := none }) (v := ?_) rfl (by kernel_rfl) (by kernel_rfl) (by kernel_rfl) (by kernel_rfl) (fun _ _ _ h => h) (Or.inl ⟨by rfl, (by intro w hSw; (try dsimp only at hSw); go_simp; try with_reducible rfl)⟩) (by assumption) ?_
        (try simp only [Act.put, List.setIfInBounds_toArray, List.set_cons_zero, List.set_cons_succ])
        refine wpAnyT_take (i := 10) (oi := { dst := (some 99), op := (Go.Op.build 97 #[(0, (Go.Operand.const (Go.Value.int Go.IntKind.i64 1))), (1, (Go.Operand.tmp 98))]), type := 97, pos := "expr.go:178", after := #[{ on := 9, ground := Go.Ground.data }], guard := none }) (v := ?_) rfl (by kernel_rfl) (by kernel_rfl) (by kernel_rfl) (by kernel_rfl) (fun _ _ _ h => h) (Or.inl ⟨by rfl, (by intro w hSw; (try dsimp only at hSw); go_simp; try with_reducible rfl)⟩) (by assumption) ?_
        (try simp only [Act.put, List.setIfInBounds_toArray, List.set_cons_zero, List.set_cons_succ])
        refine wpAnyT_one (i := 11) (o := { dst := none, op := (Go.Op.store 97 (Go.Operand.tmp 2) (Go.Operand.tmp 99)), type := 0, pos := "expr.go:178", after := #[{ on := 10, ground := Go.Ground.data }, { on := 0, ground := Go.Ground.phase }, { on := 1, ground := Go.Ground.phase }, { on := 2, ground := Go.Ground.phase }, { on := 3, ground := Go.Ground.phase }, { on := 4, ground := Go.Ground.phase }, { on := 5, ground := Go.Ground.phase }, { on := 6, ground := Go.Ground.phase }, { on := 7, ground := Go.Ground.phase }, { on := 8, ground := Go.Ground.phase }, { on := 9, ground := Go.Ground.phase }, { on := 10, ground := Go.Ground.phase }], guard := none }) (by kernel_rfl) rfl (fun K hK => ?_)
        go_simp
        refine hK.out _ _ (fun _ => by first | exact ⟨⟨((set3U _ w.heap.size _ _ _).cell ntb hne).trans n0d, ((set3U _ w.heap.size _ _ _).cell ntb hne).trans n1d⟩, by simp [World.frozen?_setCell, rf0], by simp [World.frozen?_setCell, rf1], by simp [World.frozen?_setCell, rf2]⟩ | exact ⟨⟨n0d, n1d⟩, rf0, rf1, rf2⟩) (fun hHeld => ?_)
        replace hHeld := hHeld (by decide)
        clear hK K
        (try simp only [Act.put, List.setIfInBounds_toArray, List.set_cons_zero, List.set_cons_succ])
        refine wpAnyT_one (i := 12) (o := { dst := (some 3), op := (Go.Op.assign (Go.Operand.const Go.Value.nilIface)), type := 85, pos := "expr.go:178", after := #[{ on := 11, ground := Go.Ground.chain }, { on := 0, ground := Go.Ground.phase }, { on := 1, ground := Go.Ground.phase }, { on := 2, ground := Go.Ground.phase }, { on := 3, ground := Go.Ground.phase }, { on := 4, ground := Go.Ground.phase }, { on := 5, ground := Go.Ground.phase }, { on := 6, ground := Go.Ground.phase }, { on := 7, ground := Go.Ground.phase }, { on := 8, ground := Go.Ground.phase }, { on := 9, ground := Go.Ground.phase }, { on := 10, ground := Go.Ground.phase }, { on := 11, ground := Go.Ground.phase }], guard := none }) (by kernel_rfl) rfl (fun K hK => ?_)
        go_simp
        refine hK.out _ _ (fun h => absurd rfl h) (fun hHeld => ?_)
        clear hK K
        (try simp only [Act.put, List.setIfInBounds_toArray, List.set_cons_zero, List.set_cons_succ])
        refine wpAnyT_done (by kernel_rfl) ?_ _
        go_wp2
        exact bodyPost_ret (v := .tuple #[.agg #[.int .i64 1, .string (s.extract k i), .slice none 0 0], .nilIface]) (by simp [results, Tryz.results123, go_sem, r0, r1, r2, rf0, rf1, rf2]) rfl ⟨by rw [HIM.out], by
          have hT := HP.out.1.pure HW9.out
          unfold TB at hT ⊢
          rw [← HIM.out]
          exact (((set3U _ w.heap.size _ _ _).drew).block _ ntb hne).trans hT, by
          refine Upd.trans (S' := fun q => q = w.heap.size) (((hT1.trans HU1.out (fun _ _ h => h)).mono (fun _ _ h => h.elim)).trans (HP.out.2.trans HW9.out (fun _ _ h => h.elim)) (fun q hq h => h)) ?_ (fun q hq h => absurd h (by omega))
          first | exact (set3U _ w.heap.size _ _ _).drew | exact ((set3U _ w.heap.size _ _ _).drew).drew⟩
      · have hl2 : decide (i < s.size) = false := by simp; omega
        have hl3 : decide ((i : Int) < (s.size : Int)) = false := by simp; omega
        have hl1 : ¬ ((i : Int) < (s.size : Int)) := by omega
        have HIM := As.mk him
        clear him
        go_wp2
        refine wp_region_held_drew (S := (fun v => v.cell? ⟨tb, 0, none⟩ = some (.string s) ∧ v.cell? ⟨tb, 1, none⟩ = some (.int .i64 i))) (by kernel_rfl) ?_ (fun hHeld => ?_)
        · exact ⟨c0d, c1d⟩
        refine wpAnyH_take (i := 0) (oi := { dst := (some 46), op := (Go.Op.move (Go.Operand.tmp 0)), type := 152, pos := "expr.go:172", after := #[], guard := none }) (v := ?_) rfl (by kernel_rfl) (by kernel_rfl) (by kernel_rfl) (fun _ _ _ h => h) (Or.inl ⟨by rfl, (by intro w hSw; (try dsimp only at hSw); go_simp; try with_reducible rfl)⟩) (by assumption) ?_
        (try simp only [Act.put, List.setIfInBounds_toArray, List.set_cons_zero, List.set_cons_succ])
        refine wpAnyH_take (i := 1) (oi := { dst := (some 47), op := (Go.Op.nilCheck (Go.Operand.tmp 46)), type := 0, pos := "expr.go:172", after := #[{ on := 0, ground := Go.Ground.data }], guard := none }) (v := ?_) rfl (by kernel_rfl) (by kernel_rfl) (by kernel_rfl) (fun _ _ _ h => h) (Or.inl ⟨by rfl, (by intro w hSw; (try dsimp only at hSw); go_simp; try with_reducible rfl)⟩) (by assumption) ?_
        (try simp only [Act.put, List.setIfInBounds_toArray, List.set_cons_zero, List.set_cons_succ])
        refine wpAnyH_take (i := 2) (oi := { dst := (some 48), op := (Go.Op.fieldAddr 154 (Go.Operand.tmp 47) 1), type := 0, pos := "expr.go:172", after := #[{ on := 1, ground := Go.Ground.data }], guard := none }) (v := ?_) rfl (by kernel_rfl) (by kernel_rfl) (by kernel_rfl) (fun _ _ _ h => h) (Or.inl ⟨by rfl, (by intro w hSw; (try dsimp only at hSw); go_simp; try with_reducible rfl)⟩) (by assumption) ?_
        (try simp only [Act.put, List.setIfInBounds_toArray, List.set_cons_zero, List.set_cons_succ])
        refine wpAnyH_take (i := 3) (oi := { dst := (some 49), op := (Go.Op.load 3 (Go.Operand.tmp 48)), type := 3, pos := "expr.go:172", after := #[{ on := 2, ground := Go.Ground.data }], guard := none }) (v := ?_) rfl (by kernel_rfl) (by kernel_rfl) (by kernel_rfl) (fun _ _ _ h => h) (Or.inl ⟨by rfl, (by intro w hSw; (try dsimp only at hSw); go_simp; try with_reducible rfl)⟩) (by assumption) ?_
        (try simp only [Act.put, List.setIfInBounds_toArray, List.set_cons_zero, List.set_cons_succ])
        refine wpAnyH_take (i := 4) (oi := { dst := (some 50), op := (Go.Op.move (Go.Operand.tmp 0)), type := 152, pos := "expr.go:172", after := #[], guard := none }) (v := ?_) rfl (by kernel_rfl) (by kernel_rfl) (by kernel_rfl) (fun _ _ _ h => h) (Or.inl ⟨by rfl, (by intro w hSw; (try dsimp only at hSw); go_simp; try with_reducible rfl)⟩) (by assumption) ?_
        (try simp only [Act.put, List.setIfInBounds_toArray, List.set_cons_zero, List.set_cons_succ])
        refine wpAnyH_take (i := 5) (oi := { dst := (some 51), op := (Go.Op.nilCheck (Go.Operand.tmp 50)), type := 0, pos := "expr.go:172", after := #[{ on := 4, ground := Go.Ground.data }], guard := none }) (v := ?_) rfl (by kernel_rfl) (by kernel_rfl) (by kernel_rfl) (fun _ _ _ h => h) (Or.inl ⟨by rfl, (by intro w hSw; (try dsimp only at hSw); go_simp; try with_reducible rfl)⟩) (by assumption) ?_
        (try simp only [Act.put, List.setIfInBounds_toArray, List.set_cons_zero, List.set_cons_succ])
        refine wpAnyH_take (i := 6) (oi := { dst := (some 52), op := (Go.Op.fieldAddr 154 (Go.Operand.tmp 51) 0), type := 0, pos := "expr.go:172", after := #[{ on := 5, ground := Go.Ground.data }], guard := none }) (v := ?_) rfl (by kernel_rfl) (by kernel_rfl) (by kernel_rfl) (fun _ _ _ h => h) (Or.inl ⟨by rfl, (by intro w hSw; (try dsimp only at hSw); go_simp; try with_reducible rfl)⟩) (by assumption) ?_
        (try simp only [Act.put, List.setIfInBounds_toArray, List.set_cons_zero, List.set_cons_succ])
        refine wpAnyH_take (i := 7) (oi := { dst := (some 53), op := (Go.Op.load 9 (Go.Operand.tmp 52)), type := 9, pos := "expr.go:172", after := #[{ on := 6, ground := Go.Ground.data }], guard := none }) (v := ?_) rfl (by kernel_rfl) (by kernel_rfl) (by kernel_rfl) (fun _ _ _ h => h) (Or.inl ⟨by rfl, (by intro w hSw; (try dsimp only at hSw); go_simp; try with_reducible rfl)⟩) (by assumption) ?_
        (try simp only [Act.put, List.setIfInBounds_toArray, List.set_cons_zero, List.set_cons_succ])
        refine wpAnyH_take (i := 8) (oi := { dst := (some 54), op := (Go.Op.call { callee := (Go.Callee.builtin Go.Builtin.len), args := #[(Go.Operand.tmp 53)], argTypes := #[9] }), type := 3, pos := "expr.go:172", after := #[{ on := 7, ground := Go.Ground.data }], guard := none }) (v := ?_) rfl (by kernel_rfl) (by kernel_rfl) (by kernel_rfl) (fun _ _ _ h => h) (Or.inl ⟨by rfl, (by intro w hSw; (try dsimp only at hSw); go_simp; try with_reducible rfl)⟩) (by assumption) ?_
        (try simp only [Act.put, List.setIfInBounds_toArray, List.set_cons_zero, List.set_cons_succ])
        refine wpAnyH_take (i := 9) (oi := { dst := (some 55), op := (Go.Op.binOp Go.BinOp.lss 3 (Go.Operand.tmp 49) (Go.Operand.tmp 54) 3), type := 4, pos := "expr.go:172", after := #[{ on := 3, ground := Go.Ground.data }, { on := 8, ground := Go.Ground.data }], guard := none }) (v := ?_) rfl (by kernel_rfl) (by kernel_rfl) (by kernel_rfl) (fun _ _ _ h => h) (Or.inl ⟨by rfl, (by intro w hSw; (try dsimp only at hSw); go_simp; try with_reducible rfl)⟩) (by assumption) ?_
        (try simp only [Act.put, List.setIfInBounds_toArray, List.set_cons_zero, List.set_cons_succ])
        refine wpAnyH_take (i := 10) (oi := { dst := (some 56), op := (Go.Op.move (Go.Operand.tmp 55)), type := 4, pos := "expr.go:172", after := #[{ on := 9, ground := Go.Ground.data }], guard := none }) (v := ?_) rfl (by kernel_rfl) (by kernel_rfl) (by kernel_rfl) (fun _ _ _ h => h) (Or.inl ⟨by rfl, (by intro w hSw; (try dsimp only at hSw); go_simp; try with_reducible rfl)⟩) (by assumption) ?_
        (try simp only [Act.put, List.setIfInBounds_toArray, List.set_cons_zero, List.set_cons_succ])
        refine wpAnyH_take (i := 11) (oi := { dst := (some 57), op := (Go.Op.move (Go.Operand.tmp 0)), type := 152, pos := "expr.go:172", after := #[{ on := 10, ground := Go.Ground.guard }], guard := (some (10, true)) }) (v := undef) rfl (by kernel_rfl) (by kernel_rfl) (by kernel_rfl) (fun _ _ _ h => h) (Or.inr ⟨by rfl, rfl⟩) (by assumption) ?_
        (try simp only [Act.put, List.setIfInBounds_toArray, List.set_cons_zero, List.set_cons_succ])
        refine wpAnyH_take (i := 12) (oi := { dst := (some 58), op := (Go.Op.nilCheck (Go.Operand.tmp 57)), type := 0, pos := "expr.go:172", after := #[{ on := 11, ground := Go.Ground.data }, { on := 10, ground := Go.Ground.guard }], guard := (some (10, true)) }) (v := undef) rfl (by kernel_rfl) (by kernel_rfl) (by kernel_rfl) (fun _ _ _ h => h) (Or.inr ⟨by rfl, rfl⟩) (by assumption) ?_
        (try simp only [Act.put, List.setIfInBounds_toArray, List.set_cons_zero, List.set_cons_succ])
        refine wpAnyH_take (i := 13) (oi := { dst := (some 59), op := (Go.Op.fieldAddr 154 (Go.Operand.tmp 58) 0), type := 0, pos := "expr.go:172", after := #[{ on := 12, ground := Go.Ground.data }, { on := 10, ground := Go.Ground.guard }], guard := (some (10, true)) }) (v := undef) rfl (by kernel_rfl) (by kernel_rfl) (by kernel_rfl) (fun _ _ _ h => h) (Or.inr ⟨by rfl, rfl⟩) (by assumption) ?_
        (try simp only [Act.put, List.setIfInBounds_toArray, List.set_cons_zero, List.set_cons_succ])
        refine wpAnyH_take (i := 14) (oi := { dst := (some 60), op := (Go.Op.load 9 (Go.Operand.tmp 59)), type := 9, pos := "expr.go:172", after := #[{ on := 13, ground := Go.Ground.data }, { on := 10, ground := Go.Ground.guard }], guard := (some (10, true)) }) (v := undef) rfl (by kernel_rfl) (by kernel_rfl) (by kernel_rfl) (fun _ _ _ h => h) (Or.inr ⟨by rfl, rfl⟩) (by assumption) ?_
        (try simp only [Act.put, List.setIfInBounds_toArray, List.set_cons_zero, List.set_cons_succ])
        refine wpAnyH_take (i := 15) (oi := { dst := (some 61), op := (Go.Op.move (Go.Operand.tmp 0)), type := 152, pos := "expr.go:172", after := #[{ on := 10, ground := Go.Ground.guard }], guard := (some (10, true)) }) (v := undef) rfl (by kernel_rfl) (by kernel_rfl) (by kernel_rfl) (fun _ _ _ h => h) (Or.inr ⟨by rfl, rfl⟩) (by assumption) ?_
        (try simp only [Act.put, List.setIfInBounds_toArray, List.set_cons_zero, List.set_cons_succ])
        refine wpAnyH_take (i := 16) (oi := { dst := (some 62), op := (Go.Op.nilCheck (Go.Operand.tmp 61)), type := 0, pos := "expr.go:172", after := #[{ on := 15, ground := Go.Ground.data }, { on := 10, ground := Go.Ground.guard }], guard := (some (10, true)) }) (v := undef) rfl (by kernel_rfl) (by kernel_rfl) (by kernel_rfl) (fun _ _ _ h => h) (Or.inr ⟨by rfl, rfl⟩) (by assumption) ?_
        (try simp only [Act.put, List.setIfInBounds_toArray, List.set_cons_zero, List.set_cons_succ])
        refine wpAnyH_take (i := 17) (oi := { dst := (some 63), op := (Go.Op.fieldAddr 154 (Go.Operand.tmp 62) 1), type := 0, pos := "expr.go:172", after := #[{ on := 16, ground := Go.Ground.data }, { on := 10, ground := Go.Ground.guard }], guard := (some (10, true)) }) (v := undef) rfl (by kernel_rfl) (by kernel_rfl) (by kernel_rfl) (fun _ _ _ h => h) (Or.inr ⟨by rfl, rfl⟩) (by assumption) ?_
        (try simp only [Act.put, List.setIfInBounds_toArray, List.set_cons_zero, List.set_cons_succ])
        refine wpAnyH_take (i := 18) (oi := { dst := (some 64), op := (Go.Op.load 3 (Go.Operand.tmp 63)), type := 3, pos := "expr.go:172", after := #[{ on := 17, ground := Go.Ground.data }, { on := 10, ground := Go.Ground.guard }], guard := (some (10, true)) }) (v := undef) rfl (by kernel_rfl) (by kernel_rfl) (by kernel_rfl) (fun _ _ _ h => h) (Or.inr ⟨by rfl, rfl⟩) (by assumption) ?_
        (try simp only [Act.put, List.setIfInBounds_toArray, List.set_cons_zero, List.set_cons_succ])
        refine wpAnyH_take (i := 19) (oi := { dst := (some 65), op := (Go.Op.move (Go.Operand.tmp 0)), type := 152, pos := "expr.go:172", after := #[{ on := 10, ground := Go.Ground.guard }], guard := (some (10, true)) }) (v := undef) rfl (by kernel_rfl) (by kernel_rfl) (by kernel_rfl) (fun _ _ _ h => h) (Or.inr ⟨by rfl, rfl⟩) (by assumption) ?_
        (try simp only [Act.put, List.setIfInBounds_toArray, List.set_cons_zero, List.set_cons_succ])
        refine wpAnyH_take (i := 20) (oi := { dst := (some 66), op := (Go.Op.nilCheck (Go.Operand.tmp 65)), type := 0, pos := "expr.go:172", after := #[{ on := 19, ground := Go.Ground.data }, { on := 10, ground := Go.Ground.guard }], guard := (some (10, true)) }) (v := undef) rfl (by kernel_rfl) (by kernel_rfl) (by kernel_rfl) (fun _ _ _ h => h) (Or.inr ⟨by rfl, rfl⟩) (by assumption) ?_
        (try simp only [Act.put, List.setIfInBounds_toArray, List.set_cons_zero, List.set_cons_succ])
        refine wpAnyH_take (i := 21) (oi := { dst := (some 67), op := (Go.Op.fieldAddr 154 (Go.Operand.tmp 66) 1), type := 0, pos := "expr.go:172", after := #[{ on := 20, ground := Go.Ground.data }, { on := 10, ground := Go.Ground.guard }], guard := (some (10, true)) }) (v := undef) rfl (by kernel_rfl) (by kernel_rfl) (by kernel_rfl) (fun _ _ _ h => h) (Or.inr ⟨by rfl, rfl⟩) (by assumption) ?_
        (try simp only [Act.put, List.setIfInBounds_toArray, List.set_cons_zero, List.set_cons_succ])
        refine wpAnyH_take (i := 22) (oi := { dst := (some 68), op := (Go.Op.load 3 (Go.Operand.tmp 67)), type := 3, pos := "expr.go:172", after := #[{ on := 21, ground := Go.Ground.data }, { on := 10, ground := Go.Ground.guard }], guard := (some (10, true)) }) (v := undef) rfl (by kernel_rfl) (by kernel_rfl) (by kernel_rfl) (fun _ _ _ h => h) (Or.inr ⟨by rfl, rfl⟩) (by assumption) ?_
        (try simp only [Act.put, List.setIfInBounds_toArray, List.set_cons_zero, List.set_cons_succ])
        refine wpAnyH_take (i := 23) (oi := { dst := (some 69), op := (Go.Op.binOp Go.BinOp.add 3 (Go.Operand.tmp 68) (Go.Operand.const (Go.Value.int Go.IntKind.i64 1)) 3), type := 3, pos := "expr.go:172", after := #[{ on := 22, ground := Go.Ground.data }, { on := 10, ground := Go.Ground.guard }], guard := (some (10, true)) }) (v := undef) rfl (by kernel_rfl) (by kernel_rfl) (by kernel_rfl) (fun _ _ _ h => h) (Or.inr ⟨by rfl, rfl⟩) (by assumption) ?_
        (try simp only [Act.put, List.setIfInBounds_toArray, List.set_cons_zero, List.set_cons_succ])
        refine wpAnyH_take (i := 24) (oi := { dst := (some 70), op := (Go.Op.slice 9 (Go.Operand.tmp 60) (some (Go.Operand.tmp 64)) (some (Go.Operand.tmp 69)) none), type := 9, pos := "expr.go:172", after := #[{ on := 14, ground := Go.Ground.data }, { on := 18, ground := Go.Ground.data }, { on := 23, ground := Go.Ground.data }, { on := 10, ground := Go.Ground.guard }], guard := (some (10, true)) }) (v := undef) rfl (by kernel_rfl) (by kernel_rfl) (by kernel_rfl) (fun _ _ _ h => h) (Or.inr ⟨by rfl, rfl⟩) (by assumption) ?_
        (try simp only [Act.put, List.setIfInBounds_toArray, List.set_cons_zero, List.set_cons_succ])
        refine wpAnyH_take (i := 25) (oi := { dst := (some 71), op := (Go.Op.call { callee := (Go.Callee.value (Go.Operand.func 85)), args := #[(Go.Operand.tmp 70)], argTypes := #[9] }), type := 4, pos := "expr.go:172", after := #[{ on := 24, ground := Go.Ground.data }, { on := 10, ground := Go.Ground.chain }, { on := 10, ground := Go.Ground.guard }], guard := (some (10, true)) }) (v := undef) rfl (by kernel_rfl) (by kernel_rfl) (by kernel_rfl) (fun _ _ _ h => h) (Or.inr ⟨by rfl, rfl⟩) (by assumption) ?_
        (try simp only [Act.put, List.setIfInBounds_toArray, List.set_cons_zero, List.set_cons_succ])
        refine wpAnyH_take (i := 26) (oi := { dst := (some 72), op := (Go.Op.pick (Go.Operand.tmp 56) (Go.Operand.tmp 71) (Go.Operand.const (Go.Value.bool false))), type := 4, pos := "expr.go:172", after := #[{ on := 10, ground := Go.Ground.data }, { on := 25, ground := Go.Ground.data }], guard := none }) (v := ?_) rfl (by kernel_rfl) (by kernel_rfl) (by kernel_rfl) (fun _ _ _ h => h) (Or.inl ⟨by rfl, (by intro w hSw; (try dsimp only at hSw); go_simp; try with_reducible rfl)⟩) (by assumption) ?_
        (try simp only [Act.put, List.setIfInBounds_toArray, List.set_cons_zero, List.set_cons_succ])
        refine wpAnyH_done (by kernel_rfl) ?_ _
        have HW9 := As.mk (Upd.refl (fun _ => False) wr)
        obtain ⟨⟨n0, n1⟩, nf1, ntb⟩ := (HP.out.1.pure HW9.out).cells
        have hrb : wr.heap[w.heap.size]? = some (.cells #[.int .i64 0, .string ⟨#[]⟩, .slice none 0 0] 97 (0, 0)) := ((HW9.out.block _ (by have := HP.out.2.size; have := (Array.getElem?_eq_some_iff.1 HRB.out).1; omega) (fun h => h)).trans (HP.out.2.block _ (Array.getElem?_eq_some_iff.1 HRB.out).1 (by omega))).trans HRB.out
        obtain ⟨⟨r0, r1, r2⟩, ⟨rf0, rf1, rf2⟩, hrl⟩ := cells3P hrb
        have n0d : wr.drew.drew.cell? ⟨tb, 0, none⟩ = some (.string s) := n0
        have n1d : wr.drew.drew.cell? ⟨tb, 1, none⟩ = some (.int .i64 i) := n1
        have hne : ¬ tb = w.heap.size := by omega
        go_wp2
        refine wp_region_T (P := Tryz.prog) (fun v => (v.cell? ⟨tb, 0, none⟩ = some (.string s) ∧ v.cell? ⟨tb, 1, none⟩ = some (.int .i64 i)) ∧ v.frozen? ⟨w.heap.size, 0, none⟩ = false ∧ v.frozen? ⟨w.heap.size, 1, none⟩ = false ∧ v.frozen? ⟨w.heap.size, 2, none⟩ = false) 12 (by kernel_rfl) ?_ (fun hHeld => ?_)
        · first | exact ⟨⟨((set3U _ w.heap.size _ _ _).cell ntb hne).trans n0d, ((set3U _ w.heap.size _ _ _).cell ntb hne).trans n1d⟩, by simp [World.frozen?_setCell, rf0], by simp [World.frozen?_setCell, rf1], by simp [World.frozen?_setCell, rf2]⟩ | exact ⟨⟨n0d, n1d⟩, rf0, rf1, rf2⟩
        refine wpAnyT_take (i := 0) (oi := { dst := (some 89), op := (Go.Op.move (Go.Operand.tmp 0)), type := 152, pos := "expr.go:178", after := #[], guard := none }) (v := ?_) rfl (by kernel_rfl) (by kernel_rfl) (by kernel_rfl) (by kernel_rfl) (fun _ _ _ h => h) (Or.inl ⟨by rfl, (by intro w hSw; (try dsimp only at hSw); go_simp; try with_reducible rfl)⟩) (by assumption) ?_
        (try simp only [Act.put, List.setIfInBounds_toArray, List.set_cons_zero, List.set_cons_succ])
        refine wpAnyT_take (i := 1) (oi := { dst := (some 90), op := (Go.Op.nilCheck (Go.Operand.tmp 89)), type := 0, pos := "expr.go:178", after := #[{ on := 0, ground := Go.Ground.data }], guard := none }) (v := ?_) rfl (by kernel_rfl) (by kernel_rfl) (by kernel_rfl) (by kernel_rfl) (fun _ _ _ h => h) (Or.inl ⟨by rfl, (by intro w hSw; (try dsimp only at hSw); go_simp; try with_reducible rfl)⟩) (by assumption) ?_
        (try simp only [Act.put, List.setIfInBounds_toArray, List.set_cons_zero, List.set_cons_succ])
        refine wpAnyT_take (i := 2) (oi := { dst := (some 91), op := (Go.Op.fieldAddr 154 (Go.Operand.tmp 90) 0), type := 0, pos := "expr.go:178", after := #[{ on := 1, ground := Go.Ground.data }], guard := none }) (v := ?_) rfl (by kernel_rfl) (by kernel_rfl) (by kernel_rfl) (by kernel_rfl) (fun _ _ _ h => h) (Or.inl ⟨by rfl, (by intro w hSw; (try dsimp only at hSw); go_simp; try with_reducible rfl)⟩) (by assumption) ?_
        (try simp only [Act.put, List.setIfInBounds_toArray, List.set_cons_zero, List.set_cons_succ])
        refine wpAnyT_take (i := 3) (oi := { dst := (some 92), op := (Go.Op.load 9 (Go.Operand.tmp 91)), type := 9, pos := "expr.go:178", after := #[{ on := 2, ground := Go.Ground.data }], guard := none }) (v := ?_) rfl (by kernel_rfl) (by kernel_rfl) (by kernel_rfl) (by kernel_rfl) (fun _ _ _ h => h) (Or.inl ⟨by rfl, (by intro w hSw; (try dsimp only at hSw); go_simp; try with_reducible rfl)⟩) (by assumption) ?_
        (try simp only [Act.put, List.setIfInBounds_toArray, List.set_cons_zero, List.set_cons_succ])
        refine wpAnyT_take (i := 4) (oi := { dst := (some 93), op := (Go.Op.move (Go.Operand.tmp 5)), type := 3, pos := "expr.go:178", after := #[], guard := none }) (v := ?_) rfl (by kernel_rfl) (by kernel_rfl) (by kernel_rfl) (by kernel_rfl) (fun _ _ _ h => h) (Or.inl ⟨by rfl, (by intro w hSw; (try dsimp only at hSw); go_simp; try with_reducible rfl)⟩) (by assumption) ?_
        (try simp only [Act.put, List.setIfInBounds_toArray, List.set_cons_zero, List.set_cons_succ])
        refine wpAnyT_take (i := 5) (oi := { dst := (some 94), op := (Go.Op.move (Go.Operand.tmp 0)), type := 152, pos := "expr.go:178", after := #[], guard := none }) (v := ?_) rfl (by kernel_rfl) (by kernel_rfl) (by kernel_rfl) (by kernel_rfl) (fun _ _ _ h => h) (Or.inl ⟨by rfl, (by intro w hSw; (try dsimp only at hSw); go_simp; try with_reducible rfl)⟩) (by assumption) ?_
        (try simp only [Act.put, List.setIfInBounds_toArray, List.set_cons_zero, List.set_cons_succ])
        refine wpAnyT_take (i := 6) (oi := { dst := (some 95), op := (Go.Op.nilCheck (Go.Operand.tmp 94)), type := 0, pos := "expr.go:178", after := #[{ on := 5, ground := Go.Ground.data }], guard := none }) (v := ?_) rfl (by kernel_rfl) (by kernel_rfl) (by kernel_rfl) (by kernel_rfl) (fun _ _ _ h => h) (Or.inl ⟨by rfl, (by intro w hSw; (try dsimp only at hSw); go_simp; try with_reducible rfl)⟩) (by assumption) ?_
        (try simp only [Act.put, List.setIfInBounds_toArray, List.set_cons_zero, List.set_cons_succ])
        refine wpAnyT_take (i := 7) (oi := { dst := (some 96), op := (Go.Op.fieldAddr 154 (Go.Operand.tmp 95) 1), type := 0, pos := "expr.go:178", after := #[{ on := 6, ground := Go.Ground.data }], guard := none }) (v := ?_) rfl (by kernel_rfl) (by kernel_rfl) (by kernel_rfl) (by kernel_rfl) (fun _ _ _ h => h) (Or.inl ⟨by rfl, (by intro w hSw; (try dsimp only at hSw); go_simp; try with_reducible rfl)⟩) (by assumption) ?_
        (try simp only [Act.put, List.setIfInBounds_toArray, List.set_cons_zero, List.set_cons_succ])
        refine wpAnyT_take (i := 8) (oi := { dst := (some 97), op := (Go.Op.load 3 (Go.Operand.tmp 96)), type := 3, pos := "expr.go:178", after := #[{ on := 7, ground := Go.Ground.data }], guard := none }) (v := ?_) rfl (by kernel_rfl) (by kernel_rfl) (by kernel_rfl) (by kernel_rfl) (fun _ _ _ h => h) (Or.inl ⟨by rfl, (by intro w hSw; (try dsimp only at hSw); go_simp; try with_reducible rfl)⟩) (by assumption) ?_
        (try simp only [Act.put, List.setIfInBounds_toArray, List.set_cons_zero, List.set_cons_succ])
        refine wpAnyT_take (i := 9) (oi := { dst := (some 98), op := (Go.Op.slice 9 (Go.Operand.tmp 92) (some (Go.Operand.tmp 93)) (some (Go.Operand.tmp 97)) none), type := 9, pos := "expr.go:178", after := #[{ on := 3, ground := Go.Ground.data }, { on := 4, ground := Go.Ground.data }, { on := 8, ground := Go.Ground.data }], guard := none }) (v := ?_) rfl (by kernel_rfl) (by kernel_rfl) (by kernel_rfl) (by kernel_rfl) (fun _ _ _ h => h) (Or.inl ⟨by rfl, (by intro w hSw; (try dsimp only at hSw); go_simp; try with_reducible rfl)⟩) (by assumption) ?_
        (try simp only [Act.put, List.setIfInBounds_toArray, List.set_cons_zero, List.set_cons_succ])
        refine wpAnyT_take (i := 10) (oi := { dst := (some 99), op := (Go.Op.build 97 #[(0, (Go.Operand.const (Go.Value.int Go.IntKind.i64 1))), (1, (Go.Operand.tmp 98))]), type := 97, pos := "expr.go:178", after := #[{ on := 9, ground := Go.Ground.data }], guard := none }) (v := ?_) rfl (by kernel_rfl) (by kernel_rfl) (by kernel_rfl) (by kernel_rfl) (fun _ _ _ h => h) (Or.inl ⟨by rfl, (by intro w hSw; (try dsimp only at hSw); go_simp; try with_reducible rfl)⟩) (by assumption) ?_
        (try simp only [Act.put, List.setIfInBounds_toArray, List.set_cons_zero, List.set_cons_succ])
        refine wpAnyT_one (i := 11) (o := { dst := none, op := (Go.Op.store 97 (Go.Operand.tmp 2) (Go.Operand.tmp 99)), type := 0, pos := "expr.go:178", after := #[{ on := 10, ground := Go.Ground.data }, { on := 0, ground := Go.Ground.phase }, { on := 1, ground := Go.Ground.phase }, { on := 2, ground := Go.Ground.phase }, { on := 3, ground := Go.Ground.phase }, { on := 4, ground := Go.Ground.phase }, { on := 5, ground := Go.Ground.phase }, { on := 6, ground := Go.Ground.phase }, { on := 7, ground := Go.Ground.phase }, { on := 8, ground := Go.Ground.phase }, { on := 9, ground := Go.Ground.phase }, { on := 10, ground := Go.Ground.phase }], guard := none }) (by kernel_rfl) rfl (fun K hK => ?_)
        go_simp
        refine hK.out _ _ (fun _ => by first | exact ⟨⟨((set3U _ w.heap.size _ _ _).cell ntb hne).trans n0d, ((set3U _ w.heap.size _ _ _).cell ntb hne).trans n1d⟩, by simp [World.frozen?_setCell, rf0], by simp [World.frozen?_setCell, rf1], by simp [World.frozen?_setCell, rf2]⟩ | exact ⟨⟨n0d, n1d⟩, rf0, rf1, rf2⟩) (fun hHeld => ?_)
        replace hHeld := hHeld (by decide)
        clear hK K
        (try simp only [Act.put, List.setIfInBounds_toArray, List.set_cons_zero, List.set_cons_succ])
        refine wpAnyT_one (i := 12) (o := { dst := (some 3), op := (Go.Op.assign (Go.Operand.const Go.Value.nilIface)), type := 85, pos := "expr.go:178", after := #[{ on := 11, ground := Go.Ground.chain }, { on := 0, ground := Go.Ground.phase }, { on := 1, ground := Go.Ground.phase }, { on := 2, ground := Go.Ground.phase }, { on := 3, ground := Go.Ground.phase }, { on := 4, ground := Go.Ground.phase }, { on := 5, ground := Go.Ground.phase }, { on := 6, ground := Go.Ground.phase }, { on := 7, ground := Go.Ground.phase }, { on := 8, ground := Go.Ground.phase }, { on := 9, ground := Go.Ground.phase }, { on := 10, ground := Go.Ground.phase }, { on := 11, ground := Go.Ground.phase }], guard := none }) (by kernel_rfl) rfl (fun K hK => ?_)
        go_simp
        refine hK.out _ _ (fun h => absurd rfl h) (fun hHeld => ?_)
        clear hK K
        (try simp only [Act.put, List.setIfInBounds_toArray, List.set_cons_zero, List.set_cons_succ])
        refine wpAnyT_done (by kernel_rfl) ?_ _
        go_wp2
        exact bodyPost_ret (v := .tuple #[.agg #[.int .i64 1, .string (s.extract k i), .slice none 0 0], .nilIface]) (by simp [results, Tryz.results123, go_sem, r0, r1, r2, rf0, rf1, rf2]) rfl ⟨by rw [HIM.out], by
          have hT := HP.out.1.pure HW9.out
          unfold TB at hT ⊢
          rw [← HIM.out]
          exact (((set3U _ w.heap.size _ _ _).drew).block _ ntb hne).trans hT, by
          refine Upd.trans (S' := fun q => q = w.heap.size) (((hT1.trans HU1.out (fun _ _ h => h)).mono (fun _ _ h => h.elim)).trans (HP.out.2.trans HW9.out (fun _ _ h => h.elim)) (fun q hq h => h)) ?_ (fun q hq h => absurd h (by omega))
          first | exact (set3U _ w.heap.size _ _ _).drew | exact ((set3U _ w.heap.size _ _ _).drew).drew⟩
end Go.Proofs.YteeindicpbcjaaaGreatDoor
