/- schema: level.may (but for words). schema: level.may at a rune. -/
import Derived.Test.YtfapglhdakhbeaaDoorSpecC
import Derived.Test.YtfapglhdakhbeaaDoorFlatC
namespace Go.Proofs.YtfapglhdakhbeaaDoor
open Go.RowKit
set_option linter.unusedVariables false
set_option linter.unusedSimpArgs false

def mayB (s : Spec) (x : Tok) : Bool := decide (x.n ≥ s.least) && decide (x.n ≤ s.most) && (s.leaf == decide (x.k = 3))
set_option maxRecDepth 100000 in
set_option maxHeartbeats 4000000 in
theorem may_in {w : World} {cb : Nat} {rs : List (Spec × Ex)} {gs : List Grp} {V : Value} (h : SchR w cb rs gs) (hl : rs.length ≤ 1000) {k n m : Int} {j : Nat} {x : Spec} {e : Ex} (hx : rs[j]? = some (x, e)) (hj : 1 ≤ j) (hk : k ≠ 0) : Calls Tryd.prog 34 #[V, .pointer (some ⟨cb, 0, none⟩), .agg #[.int .i64 k, .int .i64 j, .int .i64 n, .int .i64 m]] w fun r w' => r = .returned (.bool (mayB x ⟨k, j, n, m⟩)) ∧ Pure w w' := by
  have HS := As.mk (fun W (hu : Pure w W) => Spec_in (h.pure hu) hx hj hl)
  have t1 : (k == 0) = false := by simpa using hk
  have HT := As.mk ((Upd.alloc1 (fun _ => False) w (.cells #[.int .i64 k, .int .i64 j, .int .i64 n, .int .i64 m] 41)))
  have HTB := As.mk (heap_alloc_new w (.cells #[.int .i64 k, .int .i64 j, .int .i64 n, .int .i64 m] 41))
  have HV := As.mk (show mayB x ⟨k, j, n, m⟩ = (decide (n ≥ x.least) && decide (n ≤ x.most) && (x.leaf == decide (k = 3))) from rfl)
  clear h hx hk
  go_enter Tryd.func34, Tryd.ntmps34
  go_wp2_with (go_at_call 48; refine (HS.out _ HT.out).mono ?_; rintro r w1 ⟨rfl, hu⟩; have HU := As.mk hu; clear hu; apply As.out)
  refine ⟨?_⟩
  have hb := (HU.out.block w.heap.size (by simp) (fun h => h)).trans HTB.out
  have q0 : w1.cell? ⟨w.heap.size, 0, none⟩ = some (.int .i64 k) := by unfold World.cell?; simp only [hb]; rfl
  have q2 : w1.cell? ⟨w.heap.size, 2, none⟩ = some (.int .i64 n) := by unfold World.cell?; simp only [hb]; rfl
  have hbl : w.heap.size < w1.heap.size := (Array.getElem?_eq_some_iff.1 hb).1
  have HPW := As.mk (show Pure w w1 from HT.out.trans HU.out (fun _ _ h => h))
  clear hb
  cases b1 : decide (n ≥ x.least) <;> cases b2 : decide (n ≤ x.most) <;> cases b3 : x.leaf <;> cases b4 : decide (k = 3)
  all_goals
    rw [b1, b2, b3, b4] at HV
    have b5 := b1
    have b6 := b2
    simp only [ge_iff_le] at b5
    have b7 : (k == 3) = decide (k = 3) := rfl
    rw [b4] at b7
    go_wp2
    go_ret
    exact ⟨ret_bool (by rw [HV.out]; rfl), HPW.out.alloc _⟩
set_option maxRecDepth 100000 in
set_option maxHeartbeats 4000000 in
theorem may_out {w : World} {cb : Nat} {rs : List (Spec × Ex)} {gs : List Grp} {V : Value} (h : SchR w cb rs gs) (hne : rs ≠ []) (hl : rs.length ≤ 1000) {k t n m : Int} (ht : t < 1 ∨ (rs.length : Int) ≤ t) (hk : k ≠ 0) : Calls Tryd.prog 34 #[V, .pointer (some ⟨cb, 0, none⟩), .agg #[.int .i64 k, .int .i64 t, .int .i64 n, .int .i64 m]] w fun r w' => r = .returned (.bool false) ∧ Pure w w' := by
  have HS := As.mk (fun W (hu : Pure w W) => (by
    by_cases h1 : t < 1
    · exact Spec_low (h.pure hu) hne hl h1
    · exact Spec_high (h.pure hu) hne hl (by omega) (by omega) : Calls Tryd.prog 48 #[.pointer (some ⟨cb, 0, none⟩), .int .i64 t] W fun r w' => r = .returned (.tuple #[zeroSpec.val, .bool false]) ∧ Pure W w'))
  have t1 : (k == 0) = false := by simpa using hk
  have HT := As.mk ((Upd.alloc1 (fun _ => False) w (.cells #[.int .i64 k, .int .i64 t, .int .i64 n, .int .i64 m] 41)))
  clear h ht hk
  go_enter Tryd.func34, Tryd.ntmps34
  go_wp2_with (go_at_call 48; refine (HS.out _ HT.out).mono ?_; rintro r w1 ⟨rfl, hu⟩; have HU := As.mk hu; clear hu)
  go_ret
  exact ⟨rfl, (HT.out.trans HU.out (fun _ _ h => h)).alloc _⟩
end Go.Proofs.YtfapglhdakhbeaaDoor
namespace Go.Proofs.YtfapglhdakhbeaaDoor
open Go.RowKit
set_option linter.unusedVariables false
set_option linter.unusedSimpArgs false

def marksIn (m marks : Int) : Bool := decide (bits .andNot .i64 m marks = 0)
def runeB (x : Spec) (n m : Int) : Bool := marksIn m x.marks && (!decide (n = 10) || x.lines)
set_option maxRecDepth 100000 in
set_option maxHeartbeats 4000000 in
theorem may_rune_a {w : World} {c : Value} {b o : Nat} {marks : Int} {lines : Bool} (hb : b < w.heap.size) (h3 : w.cell? ⟨b, o + 3, none⟩ = some (.int .i64 marks)) (h6 : w.cell? ⟨b, o + 6, none⟩ = some (.bool lines)) {t n m : Int} (hm : marksIn m marks = false) : Calls Tryd.prog 34 #[.pointer (some ⟨b, o, none⟩), c, .agg #[.int .i64 0, .int .i64 t, .int .i64 n, .int .i64 m]] w fun r w' => r = .returned (.bool false) ∧ Pure w w' := by
  obtain ⟨W, hW⟩ : ∃ W, W = w.alloc (.cells #[.int .i64 0, .int .i64 t, .int .i64 n, .int .i64 m] 41) := ⟨_, rfl⟩
  have HPW := As.mk (show Pure w W from hW ▸ Upd.alloc1 _ _ _)
  have hWb : W.heap[w.heap.size]? = some (.cells #[.int .i64 0, .int .i64 t, .int .i64 n, .int .i64 m] 41) := hW ▸ heap_alloc_new w _
  have HSK : As (∀ v, Upd (fun _ => False) W v → v.cell? ⟨b, o + 3, none⟩ = some (.int .i64 marks) ∧ v.cell? ⟨b, o + 6, none⟩ = some (.bool lines) ∧ v.cell? ⟨w.heap.size, 2, none⟩ = some (.int .i64 n) ∧ v.cell? ⟨w.heap.size, 3, none⟩ = some (.int .i64 m)) := ⟨by
    intro v hu
    have hu2 := HPW.out.trans hu (fun _ _ h => h)
    have hbk := (hu.block w.heap.size (Array.getElem?_eq_some_iff.1 hWb).1 (fun h => h)).trans hWb
    refine ⟨(hu2.cell hb (fun h => h)).trans h3, (hu2.cell hb (fun h => h)).trans h6, ?_, ?_⟩ <;> (unfold World.cell?; simp only [hbk]; rfl)⟩
  have hz : ¬ bits .andNot .i64 m marks = 0 := by simpa [marksIn] using hm
  have hz1 : (bits .andNot .i64 m marks == 0) = false := by simpa using hz
  have hz2 : decide (bits .andNot .i64 m marks = 0) = false := by simpa using hz
  clear hz
  clear hm
  clear h3 h6 hWb
  go_enter Tryd.func34, Tryd.ntmps34
  go_wp2
  rw [← hW]
  clear hW
  refine wp_region_T (P := Tryd.prog) (fun v => v.cell? ⟨b, o + 3, none⟩ = some (.int .i64 marks) ∧ v.cell? ⟨b, o + 6, none⟩ = some (.bool lines) ∧ v.cell? ⟨w.heap.size, 2, none⟩ = some (.int .i64 n) ∧ v.cell? ⟨w.heap.size, 3, none⟩ = some (.int .i64 m)) 23 (by kernel_rfl) ?_ (fun hHeld => ?_)
  · exact HSK.out _ ((Upd.refl _ _).drew)
  refine takeT 0 (by exact opAt rfl) (by kernel_rfl) (by exact fun _ _ _ h => h) (by rfl) (by intro w hSw; (try dsimp only at hSw); go_simp; try with_reducible rfl) (by assumption) ?_
  (try simp only [Act.put, List.setIfInBounds_toArray, List.set_cons_zero, List.set_cons_succ])
  refine takeT 1 (by exact opAt rfl) (by kernel_rfl) (by exact fun _ _ _ h => h) (by rfl) (by intro w hSw; (try dsimp only at hSw); go_simp; try with_reducible rfl) (by assumption) ?_
  (try simp only [Act.put, List.setIfInBounds_toArray, List.set_cons_zero, List.set_cons_succ])
  refine takeT 2 (by exact opAt rfl) (by kernel_rfl) (by exact fun _ _ _ h => h) (by rfl) (by intro w hSw; (try dsimp only at hSw); go_simp; try with_reducible rfl) (by assumption) ?_
  (try simp only [Act.put, List.setIfInBounds_toArray, List.set_cons_zero, List.set_cons_succ])
  refine takeT 3 (by exact opAt rfl) (by kernel_rfl) (by exact fun _ _ _ h => h) (by rfl) (by intro w hSw; (try dsimp only at hSw); go_simp; try with_reducible rfl) (by assumption) ?_
  (try simp only [Act.put, List.setIfInBounds_toArray, List.set_cons_zero, List.set_cons_succ])
  refine takeT 4 (by exact opAt rfl) (by kernel_rfl) (by exact fun _ _ _ h => h) (by rfl) (by intro w hSw; (try dsimp only at hSw); go_simp; try with_reducible rfl) (by assumption) ?_
  (try simp only [Act.put, List.setIfInBounds_toArray, List.set_cons_zero, List.set_cons_succ])
  refine takeT 5 (by exact opAt rfl) (by kernel_rfl) (by exact fun _ _ _ h => h) (by rfl) (by intro w hSw; (try dsimp only at hSw); go_simp; try with_reducible rfl) (by assumption) ?_
  (try simp only [Act.put, List.setIfInBounds_toArray, List.set_cons_zero, List.set_cons_succ])
  refine takeT 6 (by exact opAt rfl) (by kernel_rfl) (by exact fun _ _ _ h => h) (by rfl) (by intro w hSw; (try dsimp only at hSw); go_simp; try with_reducible rfl) (by assumption) ?_
  (try simp only [Act.put, List.setIfInBounds_toArray, List.set_cons_zero, List.set_cons_succ])
  refine takeT 7 (by exact opAt rfl) (by kernel_rfl) (by exact fun _ _ _ h => h) (by rfl) (by intro w hSw; (try dsimp only at hSw); go_simp; try with_reducible rfl) (by assumption) ?_
  (try simp only [Act.put, List.setIfInBounds_toArray, List.set_cons_zero, List.set_cons_succ])
  refine takeT 8 (by exact opAt rfl) (by kernel_rfl) (by exact fun _ _ _ h => h) (by rfl) (by intro w hSw; (try dsimp only at hSw); go_simp; try with_reducible rfl) (by assumption) ?_
  (try simp only [Act.put, List.setIfInBounds_toArray, List.set_cons_zero, List.set_cons_succ])
  refine takeT 9 (by exact opAt rfl) (by kernel_rfl) (by exact fun _ _ _ h => h) (by rfl) (by intro w hSw; (try dsimp only at hSw); go_simp; try with_reducible rfl) (by assumption) ?_
  (try simp only [Act.put, List.setIfInBounds_toArray, List.set_cons_zero, List.set_cons_succ])
  refine takeT 10 (by exact opAt rfl) (by kernel_rfl) (by exact fun _ _ _ h => h) (by rfl) (by intro w hSw; (try dsimp only at hSw); go_simp; try with_reducible rfl) (by assumption) ?_
  (try simp only [Act.put, List.setIfInBounds_toArray, List.set_cons_zero, List.set_cons_succ])
  refine wpAnyT_take (i := 11) (oi := { dst := (some 23), op := (Go.Op.fieldAddr 41 (Go.Operand.tmp 5) 2), type := 0, pos := "schema.go:115", after := #[{ on := 10, ground := Go.Ground.guard }], guard := (some (10, true)) }) (v := undef) rfl (by kernel_rfl) (by kernel_rfl) (by kernel_rfl) (by kernel_rfl) (fun _ _ _ h => h) (Or.inr ⟨by rfl, rfl⟩) (by assumption) ?_
  (try simp only [Act.put, List.setIfInBounds_toArray, List.set_cons_zero, List.set_cons_succ])
  refine wpAnyT_take (i := 12) (oi := { dst := (some 24), op := (Go.Op.load 3 (Go.Operand.tmp 23)), type := 3, pos := "schema.go:115", after := #[{ on := 11, ground := Go.Ground.data }, { on := 10, ground := Go.Ground.guard }], guard := (some (10, true)) }) (v := undef) rfl (by kernel_rfl) (by kernel_rfl) (by kernel_rfl) (by kernel_rfl) (fun _ _ _ h => h) (Or.inr ⟨by rfl, rfl⟩) (by assumption) ?_
  (try simp only [Act.put, List.setIfInBounds_toArray, List.set_cons_zero, List.set_cons_succ])
  refine wpAnyT_take (i := 13) (oi := { dst := (some 25), op := (Go.Op.binOp Go.BinOp.neq 3 (Go.Operand.tmp 24) (Go.Operand.const (Go.Value.int Go.IntKind.i64 10)) 3), type := 4, pos := "schema.go:115", after := #[{ on := 12, ground := Go.Ground.data }, { on := 10, ground := Go.Ground.guard }], guard := (some (10, true)) }) (v := undef) rfl (by kernel_rfl) (by kernel_rfl) (by kernel_rfl) (by kernel_rfl) (fun _ _ _ h => h) (Or.inr ⟨by rfl, rfl⟩) (by assumption) ?_
  (try simp only [Act.put, List.setIfInBounds_toArray, List.set_cons_zero, List.set_cons_succ])
  refine wpAnyT_take (i := 14) (oi := { dst := (some 26), op := (Go.Op.move (Go.Operand.tmp 25)), type := 4, pos := "schema.go:115", after := #[{ on := 13, ground := Go.Ground.data }, { on := 10, ground := Go.Ground.chain }, { on := 10, ground := Go.Ground.guard }], guard := (some (10, true)) }) (v := undef) rfl (by kernel_rfl) (by kernel_rfl) (by kernel_rfl) (by kernel_rfl) (fun _ _ _ h => h) (Or.inr ⟨by rfl, rfl⟩) (by assumption) ?_
  (try simp only [Act.put, List.setIfInBounds_toArray, List.set_cons_zero, List.set_cons_succ])
  refine wpAnyT_take (i := 15) (oi := { dst := (some 27), op := (Go.Op.move (Go.Operand.tmp 0)), type := 87, pos := "schema.go:115", after := #[{ on := 14, ground := Go.Ground.guard }], guard := (some (14, false)) }) (v := undef) rfl (by kernel_rfl) (by kernel_rfl) (by kernel_rfl) (by kernel_rfl) (fun _ _ _ h => h) (Or.inr ⟨by rfl, rfl⟩) (by assumption) ?_
  (try simp only [Act.put, List.setIfInBounds_toArray, List.set_cons_zero, List.set_cons_succ])
  refine wpAnyT_take (i := 16) (oi := { dst := (some 28), op := (Go.Op.nilCheck (Go.Operand.tmp 27)), type := 0, pos := "schema.go:115", after := #[{ on := 15, ground := Go.Ground.data }, { on := 14, ground := Go.Ground.guard }], guard := (some (14, false)) }) (v := undef) rfl (by kernel_rfl) (by kernel_rfl) (by kernel_rfl) (by kernel_rfl) (fun _ _ _ h => h) (Or.inr ⟨by rfl, rfl⟩) (by assumption) ?_
  (try simp only [Act.put, List.setIfInBounds_toArray, List.set_cons_zero, List.set_cons_succ])
  refine wpAnyT_take (i := 17) (oi := { dst := (some 29), op := (Go.Op.fieldAddr 85 (Go.Operand.tmp 28) 0), type := 0, pos := "schema.go:115", after := #[{ on := 16, ground := Go.Ground.data }, { on := 14, ground := Go.Ground.guard }], guard := (some (14, false)) }) (v := undef) rfl (by kernel_rfl) (by kernel_rfl) (by kernel_rfl) (by kernel_rfl) (fun _ _ _ h => h) (Or.inr ⟨by rfl, rfl⟩) (by assumption) ?_
  (try simp only [Act.put, List.setIfInBounds_toArray, List.set_cons_zero, List.set_cons_succ])
  refine wpAnyT_take (i := 18) (oi := { dst := (some 30), op := (Go.Op.fieldAddr 82 (Go.Operand.tmp 29) 0), type := 0, pos := "schema.go:115", after := #[{ on := 17, ground := Go.Ground.data }, { on := 14, ground := Go.Ground.guard }], guard := (some (14, false)) }) (v := undef) rfl (by kernel_rfl) (by kernel_rfl) (by kernel_rfl) (by kernel_rfl) (fun _ _ _ h => h) (Or.inr ⟨by rfl, rfl⟩) (by assumption) ?_
  (try simp only [Act.put, List.setIfInBounds_toArray, List.set_cons_zero, List.set_cons_succ])
  refine wpAnyT_take (i := 19) (oi := { dst := (some 31), op := (Go.Op.fieldAddr 54 (Go.Operand.tmp 30) 6), type := 0, pos := "schema.go:115", after := #[{ on := 18, ground := Go.Ground.data }, { on := 14, ground := Go.Ground.guard }], guard := (some (14, false)) }) (v := undef) rfl (by kernel_rfl) (by kernel_rfl) (by kernel_rfl) (by kernel_rfl) (fun _ _ _ h => h) (Or.inr ⟨by rfl, rfl⟩) (by assumption) ?_
  (try simp only [Act.put, List.setIfInBounds_toArray, List.set_cons_zero, List.set_cons_succ])
  refine wpAnyT_take (i := 20) (oi := { dst := (some 32), op := (Go.Op.load 4 (Go.Operand.tmp 31)), type := 4, pos := "schema.go:115", after := #[{ on := 19, ground := Go.Ground.data }, { on := 14, ground := Go.Ground.guard }], guard := (some (14, false)) }) (v := undef) rfl (by kernel_rfl) (by kernel_rfl) (by kernel_rfl) (by kernel_rfl) (fun _ _ _ h => h) (Or.inr ⟨by rfl, rfl⟩) (by assumption) ?_
  (try simp only [Act.put, List.setIfInBounds_toArray, List.set_cons_zero, List.set_cons_succ])
  refine wpAnyT_take (i := 21) (oi := { dst := (some 33), op := (Go.Op.pick (Go.Operand.tmp 26) (Go.Operand.const (Go.Value.bool true)) (Go.Operand.tmp 32)), type := 4, pos := "schema.go:115", after := #[{ on := 14, ground := Go.Ground.data }, { on := 20, ground := Go.Ground.data }, { on := 10, ground := Go.Ground.guard }], guard := (some (10, true)) }) (v := undef) rfl (by kernel_rfl) (by kernel_rfl) (by kernel_rfl) (by kernel_rfl) (fun _ _ _ h => h) (Or.inr ⟨by rfl, rfl⟩) (by assumption) ?_
  (try simp only [Act.put, List.setIfInBounds_toArray, List.set_cons_zero, List.set_cons_succ])
  refine takeT 22 (by exact opAt rfl) (by kernel_rfl) (by exact fun _ _ _ h => h) (by rfl) (by intro w hSw; (try dsimp only at hSw); go_simp; try with_reducible rfl) (by assumption) ?_
  (try simp only [Act.put, List.setIfInBounds_toArray, List.set_cons_zero, List.set_cons_succ])
  refine wpAnyT_one (i := 23) (by kernel_rfl) (by exact opAt rfl) (fun K hK => ?_)
  go_simp
  refine hK.out _ _ (fun h => absurd rfl h) (fun hHeld => ?_)
  clear hK K
  (try simp only [Act.put, List.setIfInBounds_toArray, List.set_cons_zero, List.set_cons_succ])
  refine wpAnyT_done (by kernel_rfl) ?_ _
  go_wp2
  go_ret
  exact ⟨rfl, HPW.out.drew⟩
set_option maxRecDepth 100000 in
set_option maxHeartbeats 4000000 in
theorem may_rune_b {w : World} {c : Value} {b o : Nat} {marks : Int} {lines : Bool} (hb : b < w.heap.size) (h3 : w.cell? ⟨b, o + 3, none⟩ = some (.int .i64 marks)) (h6 : w.cell? ⟨b, o + 6, none⟩ = some (.bool lines)) {t n m : Int} (hm : marksIn m marks = true) (hn : n ≠ 10) : Calls Tryd.prog 34 #[.pointer (some ⟨b, o, none⟩), c, .agg #[.int .i64 0, .int .i64 t, .int .i64 n, .int .i64 m]] w fun r w' => r = .returned (.bool true) ∧ Pure w w' := by
  obtain ⟨W, hW⟩ : ∃ W, W = w.alloc (.cells #[.int .i64 0, .int .i64 t, .int .i64 n, .int .i64 m] 41) := ⟨_, rfl⟩
  have HPW := As.mk (show Pure w W from hW ▸ Upd.alloc1 _ _ _)
  have hWb : W.heap[w.heap.size]? = some (.cells #[.int .i64 0, .int .i64 t, .int .i64 n, .int .i64 m] 41) := hW ▸ heap_alloc_new w _
  have HSK : As (∀ v, Upd (fun _ => False) W v → v.cell? ⟨b, o + 3, none⟩ = some (.int .i64 marks) ∧ v.cell? ⟨b, o + 6, none⟩ = some (.bool lines) ∧ v.cell? ⟨w.heap.size, 2, none⟩ = some (.int .i64 n) ∧ v.cell? ⟨w.heap.size, 3, none⟩ = some (.int .i64 m)) := ⟨by
    intro v hu
    have hu2 := HPW.out.trans hu (fun _ _ h => h)
    have hbk := (hu.block w.heap.size (Array.getElem?_eq_some_iff.1 hWb).1 (fun h => h)).trans hWb
    refine ⟨(hu2.cell hb (fun h => h)).trans h3, (hu2.cell hb (fun h => h)).trans h6, ?_, ?_⟩ <;> (unfold World.cell?; simp only [hbk]; rfl)⟩
  have hz : bits .andNot .i64 m marks = 0 := by simpa [marksIn] using hm
  have hz1 : (bits .andNot .i64 m marks == 0) = true := by simpa using hz
  have hz2 : decide (bits .andNot .i64 m marks = 0) = true := by simpa using hz
  clear hz
  have t1 : (n == 10) = false := by simpa using hn
  have t2 : (n != 10) = true := by simpa using hn
  clear hm
  clear h3 h6 hWb
  go_enter Tryd.func34, Tryd.ntmps34
  go_wp2
  rw [← hW]
  clear hW
  refine wp_region_T (P := Tryd.prog) (fun v => v.cell? ⟨b, o + 3, none⟩ = some (.int .i64 marks) ∧ v.cell? ⟨b, o + 6, none⟩ = some (.bool lines) ∧ v.cell? ⟨w.heap.size, 2, none⟩ = some (.int .i64 n) ∧ v.cell? ⟨w.heap.size, 3, none⟩ = some (.int .i64 m)) 23 (by kernel_rfl) ?_ (fun hHeld => ?_)
  · exact HSK.out _ ((Upd.refl _ _).drew)
  refine takeT 0 (by exact opAt rfl) (by kernel_rfl) (by exact fun _ _ _ h => h) (by rfl) (by intro w hSw; (try dsimp only at hSw); go_simp; try with_reducible rfl) (by assumption) ?_
  (try simp only [Act.put, List.setIfInBounds_toArray, List.set_cons_zero, List.set_cons_succ])
  refine takeT 1 (by exact opAt rfl) (by kernel_rfl) (by exact fun _ _ _ h => h) (by rfl) (by intro w hSw; (try dsimp only at hSw); go_simp; try with_reducible rfl) (by assumption) ?_
  (try simp only [Act.put, List.setIfInBounds_toArray, List.set_cons_zero, List.set_cons_succ])
  refine takeT 2 (by exact opAt rfl) (by kernel_rfl) (by exact fun _ _ _ h => h) (by rfl) (by intro w hSw; (try dsimp only at hSw); go_simp; try with_reducible rfl) (by assumption) ?_
  (try simp only [Act.put, List.setIfInBounds_toArray, List.set_cons_zero, List.set_cons_succ])
  refine takeT 3 (by exact opAt rfl) (by kernel_rfl) (by exact fun _ _ _ h => h) (by rfl) (by intro w hSw; (try dsimp only at hSw); go_simp; try with_reducible rfl) (by assumption) ?_
  (try simp only [Act.put, List.setIfInBounds_toArray, List.set_cons_zero, List.set_cons_succ])
  refine takeT 4 (by exact opAt rfl) (by kernel_rfl) (by exact fun _ _ _ h => h) (by rfl) (by intro w hSw; (try dsimp only at hSw); go_simp; try with_reducible rfl) (by assumption) ?_
  (try simp only [Act.put, List.setIfInBounds_toArray, List.set_cons_zero, List.set_cons_succ])
  refine takeT 5 (by exact opAt rfl) (by kernel_rfl) (by exact fun _ _ _ h => h) (by rfl) (by intro w hSw; (try dsimp only at hSw); go_simp; try with_reducible rfl) (by assumption) ?_
  (try simp only [Act.put, List.setIfInBounds_toArray, List.set_cons_zero, List.set_cons_succ])
  refine takeT 6 (by exact opAt rfl) (by kernel_rfl) (by exact fun _ _ _ h => h) (by rfl) (by intro w hSw; (try dsimp only at hSw); go_simp; try with_reducible rfl) (by assumption) ?_
  (try simp only [Act.put, List.setIfInBounds_toArray, List.set_cons_zero, List.set_cons_succ])
  refine takeT 7 (by exact opAt rfl) (by kernel_rfl) (by exact fun _ _ _ h => h) (by rfl) (by intro w hSw; (try dsimp only at hSw); go_simp; try with_reducible rfl) (by assumption) ?_
  (try simp only [Act.put, List.setIfInBounds_toArray, List.set_cons_zero, List.set_cons_succ])
  refine takeT 8 (by exact opAt rfl) (by kernel_rfl) (by exact fun _ _ _ h => h) (by rfl) (by intro w hSw; (try dsimp only at hSw); go_simp; try with_reducible rfl) (by assumption) ?_
  (try simp only [Act.put, List.setIfInBounds_toArray, List.set_cons_zero, List.set_cons_succ])
  refine takeT 9 (by exact opAt rfl) (by kernel_rfl) (by exact fun _ _ _ h => h) (by rfl) (by intro w hSw; (try dsimp only at hSw); go_simp; try with_reducible rfl) (by assumption) ?_
  (try simp only [Act.put, List.setIfInBounds_toArray, List.set_cons_zero, List.set_cons_succ])
  refine takeT 10 (by exact opAt rfl) (by kernel_rfl) (by exact fun _ _ _ h => h) (by rfl) (by intro w hSw; (try dsimp only at hSw); go_simp; try with_reducible rfl) (by assumption) ?_
  (try simp only [Act.put, List.setIfInBounds_toArray, List.set_cons_zero, List.set_cons_succ])
  refine takeT 11 (by exact opAt rfl) (by kernel_rfl) (by exact fun _ _ _ h => h) (by rfl) (by intro w hSw; (try dsimp only at hSw); go_simp; try with_reducible rfl) (by assumption) ?_
  (try simp only [Act.put, List.setIfInBounds_toArray, List.set_cons_zero, List.set_cons_succ])
  refine takeT 12 (by exact opAt rfl) (by kernel_rfl) (by exact fun _ _ _ h => h) (by rfl) (by intro w hSw; (try dsimp only at hSw); go_simp; try with_reducible rfl) (by assumption) ?_
  (try simp only [Act.put, List.setIfInBounds_toArray, List.set_cons_zero, List.set_cons_succ])
  refine takeT 13 (by exact opAt rfl) (by kernel_rfl) (by exact fun _ _ _ h => h) (by rfl) (by intro w hSw; (try dsimp only at hSw); go_simp; try with_reducible rfl) (by assumption) ?_
  (try simp only [Act.put, List.setIfInBounds_toArray, List.set_cons_zero, List.set_cons_succ])
  refine takeT 14 (by exact opAt rfl) (by kernel_rfl) (by exact fun _ _ _ h => h) (by rfl) (by intro w hSw; (try dsimp only at hSw); go_simp; try with_reducible rfl) (by assumption) ?_
  (try simp only [Act.put, List.setIfInBounds_toArray, List.set_cons_zero, List.set_cons_succ])
  refine wpAnyT_take (i := 15) (oi := { dst := (some 27), op := (Go.Op.move (Go.Operand.tmp 0)), type := 87, pos := "schema.go:115", after := #[{ on := 14, ground := Go.Ground.guard }], guard := (some (14, false)) }) (v := undef) rfl (by kernel_rfl) (by kernel_rfl) (by kernel_rfl) (by kernel_rfl) (fun _ _ _ h => h) (Or.inr ⟨by rfl, rfl⟩) (by assumption) ?_
  (try simp only [Act.put, List.setIfInBounds_toArray, List.set_cons_zero, List.set_cons_succ])
  refine wpAnyT_take (i := 16) (oi := { dst := (some 28), op := (Go.Op.nilCheck (Go.Operand.tmp 27)), type := 0, pos := "schema.go:115", after := #[{ on := 15, ground := Go.Ground.data }, { on := 14, ground := Go.Ground.guard }], guard := (some (14, false)) }) (v := undef) rfl (by kernel_rfl) (by kernel_rfl) (by kernel_rfl) (by kernel_rfl) (fun _ _ _ h => h) (Or.inr ⟨by rfl, rfl⟩) (by assumption) ?_
  (try simp only [Act.put, List.setIfInBounds_toArray, List.set_cons_zero, List.set_cons_succ])
  refine wpAnyT_take (i := 17) (oi := { dst := (some 29), op := (Go.Op.fieldAddr 85 (Go.Operand.tmp 28) 0), type := 0, pos := "schema.go:115", after := #[{ on := 16, ground := Go.Ground.data }, { on := 14, ground := Go.Ground.guard }], guard := (some (14, false)) }) (v := undef) rfl (by kernel_rfl) (by kernel_rfl) (by kernel_rfl) (by kernel_rfl) (fun _ _ _ h => h) (Or.inr ⟨by rfl, rfl⟩) (by assumption) ?_
  (try simp only [Act.put, List.setIfInBounds_toArray, List.set_cons_zero, List.set_cons_succ])
  refine wpAnyT_take (i := 18) (oi := { dst := (some 30), op := (Go.Op.fieldAddr 82 (Go.Operand.tmp 29) 0), type := 0, pos := "schema.go:115", after := #[{ on := 17, ground := Go.Ground.data }, { on := 14, ground := Go.Ground.guard }], guard := (some (14, false)) }) (v := undef) rfl (by kernel_rfl) (by kernel_rfl) (by kernel_rfl) (by kernel_rfl) (fun _ _ _ h => h) (Or.inr ⟨by rfl, rfl⟩) (by assumption) ?_
  (try simp only [Act.put, List.setIfInBounds_toArray, List.set_cons_zero, List.set_cons_succ])
  refine wpAnyT_take (i := 19) (oi := { dst := (some 31), op := (Go.Op.fieldAddr 54 (Go.Operand.tmp 30) 6), type := 0, pos := "schema.go:115", after := #[{ on := 18, ground := Go.Ground.data }, { on := 14, ground := Go.Ground.guard }], guard := (some (14, false)) }) (v := undef) rfl (by kernel_rfl) (by kernel_rfl) (by kernel_rfl) (by kernel_rfl) (fun _ _ _ h => h) (Or.inr ⟨by rfl, rfl⟩) (by assumption) ?_
  (try simp only [Act.put, List.setIfInBounds_toArray, List.set_cons_zero, List.set_cons_succ])
  refine wpAnyT_take (i := 20) (oi := { dst := (some 32), op := (Go.Op.load 4 (Go.Operand.tmp 31)), type := 4, pos := "schema.go:115", after := #[{ on := 19, ground := Go.Ground.data }, { on := 14, ground := Go.Ground.guard }], guard := (some (14, false)) }) (v := undef) rfl (by kernel_rfl) (by kernel_rfl) (by kernel_rfl) (by kernel_rfl) (fun _ _ _ h => h) (Or.inr ⟨by rfl, rfl⟩) (by assumption) ?_
  (try simp only [Act.put, List.setIfInBounds_toArray, List.set_cons_zero, List.set_cons_succ])
  refine takeT 21 (by exact opAt rfl) (by kernel_rfl) (by exact fun _ _ _ h => h) (by rfl) (by intro w hSw; (try dsimp only at hSw); go_simp; try with_reducible rfl) (by assumption) ?_
  (try simp only [Act.put, List.setIfInBounds_toArray, List.set_cons_zero, List.set_cons_succ])
  refine takeT 22 (by exact opAt rfl) (by kernel_rfl) (by exact fun _ _ _ h => h) (by rfl) (by intro w hSw; (try dsimp only at hSw); go_simp; try with_reducible rfl) (by assumption) ?_
  (try simp only [Act.put, List.setIfInBounds_toArray, List.set_cons_zero, List.set_cons_succ])
  refine wpAnyT_one (i := 23) (by kernel_rfl) (by exact opAt rfl) (fun K hK => ?_)
  go_simp
  refine hK.out _ _ (fun h => absurd rfl h) (fun hHeld => ?_)
  clear hK K
  (try simp only [Act.put, List.setIfInBounds_toArray, List.set_cons_zero, List.set_cons_succ])
  refine wpAnyT_done (by kernel_rfl) ?_ _
  go_wp2
  go_ret
  exact ⟨rfl, HPW.out.drew⟩
set_option maxRecDepth 100000 in
set_option maxHeartbeats 4000000 in
theorem may_rune_c {w : World} {c : Value} {b o : Nat} {marks : Int} {lines : Bool} (hb : b < w.heap.size) (h3 : w.cell? ⟨b, o + 3, none⟩ = some (.int .i64 marks)) (h6 : w.cell? ⟨b, o + 6, none⟩ = some (.bool lines)) {t n m : Int} (hm : marksIn m marks = true) (hn : n = 10) : Calls Tryd.prog 34 #[.pointer (some ⟨b, o, none⟩), c, .agg #[.int .i64 0, .int .i64 t, .int .i64 n, .int .i64 m]] w fun r w' => r = .returned (.bool lines) ∧ Pure w w' := by
  obtain ⟨W, hW⟩ : ∃ W, W = w.alloc (.cells #[.int .i64 0, .int .i64 t, .int .i64 n, .int .i64 m] 41) := ⟨_, rfl⟩
  have HPW := As.mk (show Pure w W from hW ▸ Upd.alloc1 _ _ _)
  have hWb : W.heap[w.heap.size]? = some (.cells #[.int .i64 0, .int .i64 t, .int .i64 n, .int .i64 m] 41) := hW ▸ heap_alloc_new w _
  have HSK : As (∀ v, Upd (fun _ => False) W v → v.cell? ⟨b, o + 3, none⟩ = some (.int .i64 marks) ∧ v.cell? ⟨b, o + 6, none⟩ = some (.bool lines) ∧ v.cell? ⟨w.heap.size, 2, none⟩ = some (.int .i64 n) ∧ v.cell? ⟨w.heap.size, 3, none⟩ = some (.int .i64 m)) := ⟨by
    intro v hu
    have hu2 := HPW.out.trans hu (fun _ _ h => h)
    have hbk := (hu.block w.heap.size (Array.getElem?_eq_some_iff.1 hWb).1 (fun h => h)).trans hWb
    refine ⟨(hu2.cell hb (fun h => h)).trans h3, (hu2.cell hb (fun h => h)).trans h6, ?_, ?_⟩ <;> (unfold World.cell?; simp only [hbk]; rfl)⟩
  have hz : bits .andNot .i64 m marks = 0 := by simpa [marksIn] using hm
  have hz1 : (bits .andNot .i64 m marks == 0) = true := by simpa using hz
  have hz2 : decide (bits .andNot .i64 m marks = 0) = true := by simpa using hz
  clear hz
  have t1 : (n == 10) = true := by simpa using hn
  have t2 : (n != 10) = false := by simpa using hn
  clear hm hn
  clear h3 h6 hWb
  go_enter Tryd.func34, Tryd.ntmps34
  go_wp2
  rw [← hW]
  clear hW
  refine wp_region_T (P := Tryd.prog) (fun v => v.cell? ⟨b, o + 3, none⟩ = some (.int .i64 marks) ∧ v.cell? ⟨b, o + 6, none⟩ = some (.bool lines) ∧ v.cell? ⟨w.heap.size, 2, none⟩ = some (.int .i64 n) ∧ v.cell? ⟨w.heap.size, 3, none⟩ = some (.int .i64 m)) 23 (by kernel_rfl) ?_ (fun hHeld => ?_)
  · exact HSK.out _ ((Upd.refl _ _).drew)
  refine takeT 0 (by exact opAt rfl) (by kernel_rfl) (by exact fun _ _ _ h => h) (by rfl) (by intro w hSw; (try dsimp only at hSw); go_simp; try with_reducible rfl) (by assumption) ?_
  (try simp only [Act.put, List.setIfInBounds_toArray, List.set_cons_zero, List.set_cons_succ])
  refine takeT 1 (by exact opAt rfl) (by kernel_rfl) (by exact fun _ _ _ h => h) (by rfl) (by intro w hSw; (try dsimp only at hSw); go_simp; try with_reducible rfl) (by assumption) ?_
  (try simp only [Act.put, List.setIfInBounds_toArray, List.set_cons_zero, List.set_cons_succ])
  refine takeT 2 (by exact opAt rfl) (by kernel_rfl) (by exact fun _ _ _ h => h) (by rfl) (by intro w hSw; (try dsimp only at hSw); go_simp; try with_reducible rfl) (by assumption) ?_
  (try simp only [Act.put, List.setIfInBounds_toArray, List.set_cons_zero, List.set_cons_succ])
  refine takeT 3 (by exact opAt rfl) (by kernel_rfl) (by exact fun _ _ _ h => h) (by rfl) (by intro w hSw; (try dsimp only at hSw); go_simp; try with_reducible rfl) (by assumption) ?_
  (try simp only [Act.put, List.setIfInBounds_toArray, List.set_cons_zero, List.set_cons_succ])
  refine takeT 4 (by exact opAt rfl) (by kernel_rfl) (by exact fun _ _ _ h => h) (by rfl) (by intro w hSw; (try dsimp only at hSw); go_simp; try with_reducible rfl) (by assumption) ?_
  (try simp only [Act.put, List.setIfInBounds_toArray, List.set_cons_zero, List.set_cons_succ])
  refine takeT 5 (by exact opAt rfl) (by kernel_rfl) (by exact fun _ _ _ h => h) (by rfl) (by intro w hSw; (try dsimp only at hSw); go_simp; try with_reducible rfl) (by assumption) ?_
  (try simp only [Act.put, List.setIfInBounds_toArray, List.set_cons_zero, List.set_cons_succ])
  refine takeT 6 (by exact opAt rfl) (by kernel_rfl) (by exact fun _ _ _ h => h) (by rfl) (by intro w hSw; (try dsimp only at hSw); go_simp; try with_reducible rfl) (by assumption) ?_
  (try simp only [Act.put, List.setIfInBounds_toArray, List.set_cons_zero, List.set_cons_succ])
  refine takeT 7 (by exact opAt rfl) (by kernel_rfl) (by exact fun _ _ _ h => h) (by rfl) (by intro w hSw; (try dsimp only at hSw); go_simp; try with_reducible rfl) (by assumption) ?_
  (try simp only [Act.put, List.setIfInBounds_toArray, List.set_cons_zero, List.set_cons_succ])
  refine takeT 8 (by exact opAt rfl) (by kernel_rfl) (by exact fun _ _ _ h => h) (by rfl) (by intro w hSw; (try dsimp only at hSw); go_simp; try with_reducible rfl) (by assumption) ?_
  (try simp only [Act.put, List.setIfInBounds_toArray, List.set_cons_zero, List.set_cons_succ])
  refine takeT 9 (by exact opAt rfl) (by kernel_rfl) (by exact fun _ _ _ h => h) (by rfl) (by intro w hSw; (try dsimp only at hSw); go_simp; try with_reducible rfl) (by assumption) ?_
  (try simp only [Act.put, List.setIfInBounds_toArray, List.set_cons_zero, List.set_cons_succ])
  refine takeT 10 (by exact opAt rfl) (by kernel_rfl) (by exact fun _ _ _ h => h) (by rfl) (by intro w hSw; (try dsimp only at hSw); go_simp; try with_reducible rfl) (by assumption) ?_
  (try simp only [Act.put, List.setIfInBounds_toArray, List.set_cons_zero, List.set_cons_succ])
  refine takeT 11 (by exact opAt rfl) (by kernel_rfl) (by exact fun _ _ _ h => h) (by rfl) (by intro w hSw; (try dsimp only at hSw); go_simp; try with_reducible rfl) (by assumption) ?_
  (try simp only [Act.put, List.setIfInBounds_toArray, List.set_cons_zero, List.set_cons_succ])
  refine takeT 12 (by exact opAt rfl) (by kernel_rfl) (by exact fun _ _ _ h => h) (by rfl) (by intro w hSw; (try dsimp only at hSw); go_simp; try with_reducible rfl) (by assumption) ?_
  (try simp only [Act.put, List.setIfInBounds_toArray, List.set_cons_zero, List.set_cons_succ])
  refine takeT 13 (by exact opAt rfl) (by kernel_rfl) (by exact fun _ _ _ h => h) (by rfl) (by intro w hSw; (try dsimp only at hSw); go_simp; try with_reducible rfl) (by assumption) ?_
  (try simp only [Act.put, List.setIfInBounds_toArray, List.set_cons_zero, List.set_cons_succ])
  refine takeT 14 (by exact opAt rfl) (by kernel_rfl) (by exact fun _ _ _ h => h) (by rfl) (by intro w hSw; (try dsimp only at hSw); go_simp; try with_reducible rfl) (by assumption) ?_
  (try simp only [Act.put, List.setIfInBounds_toArray, List.set_cons_zero, List.set_cons_succ])
  refine takeT 15 (by exact opAt rfl) (by kernel_rfl) (by exact fun _ _ _ h => h) (by rfl) (by intro w hSw; (try dsimp only at hSw); go_simp; try with_reducible rfl) (by assumption) ?_
  (try simp only [Act.put, List.setIfInBounds_toArray, List.set_cons_zero, List.set_cons_succ])
  refine takeT 16 (by exact opAt rfl) (by kernel_rfl) (by exact fun _ _ _ h => h) (by rfl) (by intro w hSw; (try dsimp only at hSw); go_simp; try with_reducible rfl) (by assumption) ?_
  (try simp only [Act.put, List.setIfInBounds_toArray, List.set_cons_zero, List.set_cons_succ])
  refine takeT 17 (by exact opAt rfl) (by kernel_rfl) (by exact fun _ _ _ h => h) (by rfl) (by intro w hSw; (try dsimp only at hSw); go_simp; try with_reducible rfl) (by assumption) ?_
  (try simp only [Act.put, List.setIfInBounds_toArray, List.set_cons_zero, List.set_cons_succ])
  refine takeT 18 (by exact opAt rfl) (by kernel_rfl) (by exact fun _ _ _ h => h) (by rfl) (by intro w hSw; (try dsimp only at hSw); go_simp; try with_reducible rfl) (by assumption) ?_
  (try simp only [Act.put, List.setIfInBounds_toArray, List.set_cons_zero, List.set_cons_succ])
  refine takeT 19 (by exact opAt rfl) (by kernel_rfl) (by exact fun _ _ _ h => h) (by rfl) (by intro w hSw; (try dsimp only at hSw); go_simp; try with_reducible rfl) (by assumption) ?_
  (try simp only [Act.put, List.setIfInBounds_toArray, List.set_cons_zero, List.set_cons_succ])
  refine takeT 20 (by exact opAt rfl) (by kernel_rfl) (by exact fun _ _ _ h => h) (by rfl) (by intro w hSw; (try dsimp only at hSw); go_simp; try with_reducible rfl) (by assumption) ?_
  (try simp only [Act.put, List.setIfInBounds_toArray, List.set_cons_zero, List.set_cons_succ])
  refine takeT 21 (by exact opAt rfl) (by kernel_rfl) (by exact fun _ _ _ h => h) (by rfl) (by intro w hSw; (try dsimp only at hSw); go_simp; try with_reducible rfl) (by assumption) ?_
  (try simp only [Act.put, List.setIfInBounds_toArray, List.set_cons_zero, List.set_cons_succ])
  refine takeT 22 (by exact opAt rfl) (by kernel_rfl) (by exact fun _ _ _ h => h) (by rfl) (by intro w hSw; (try dsimp only at hSw); go_simp; try with_reducible rfl) (by assumption) ?_
  (try simp only [Act.put, List.setIfInBounds_toArray, List.set_cons_zero, List.set_cons_succ])
  refine wpAnyT_one (i := 23) (by kernel_rfl) (by exact opAt rfl) (fun K hK => ?_)
  go_simp
  refine hK.out _ _ (fun h => absurd rfl h) (fun hHeld => ?_)
  clear hK K
  (try simp only [Act.put, List.setIfInBounds_toArray, List.set_cons_zero, List.set_cons_succ])
  refine wpAnyT_done (by kernel_rfl) ?_ _
  go_wp2
  go_ret
  exact ⟨rfl, HPW.out.drew⟩
theorem may_rune {w : World} {c : Value} {b o : Nat} {x : Spec} (hb : b < w.heap.size) (h3 : w.cell? ⟨b, o + 3, none⟩ = some (.int .i64 x.marks)) (h6 : w.cell? ⟨b, o + 6, none⟩ = some (.bool x.lines)) {t n m : Int} : Calls Tryd.prog 34 #[.pointer (some ⟨b, o, none⟩), c, .agg #[.int .i64 0, .int .i64 t, .int .i64 n, .int .i64 m]] w fun r w' => r = .returned (.bool (runeB x n m)) ∧ Pure w w' := by
  cases hm : marksIn m x.marks
  · exact (may_rune_a hb h3 h6 hm).mono fun r w' h => ⟨by rw [h.1]; unfold runeB; rw [hm]; rfl, h.2⟩
  · by_cases hn : n = 10
    · exact (may_rune_c hb h3 h6 hm hn).mono fun r w' h => ⟨by rw [h.1]; unfold runeB; rw [hm]; simp [hn], h.2⟩
    · exact (may_rune_b hb h3 h6 hm hn).mono fun r w' h => ⟨by rw [h.1]; unfold runeB; rw [hm]; simp [hn], h.2⟩
/-- The spec of a type. -/
def specOf (rs : List (Spec × Ex)) (t : Int) : Option Spec := if t < 1 then none else (rs[t.toNat]?).map (·.1)
def mayT (rs : List (Spec × Ex)) (x : Spec) (t : Tok) : Bool := if t.k = 0 then runeB x t.n t.m else match specOf rs t.t with | some s => mayB s t | none => false
theorem may_calls {w : World} {cb : Nat} {rs : List (Spec × Ex)} {gs : List Grp} (h : SchR w cb rs gs) (hne : rs ≠ []) (hl : rs.length ≤ 1000) {b o : Nat} {x : Spec} (hb : b < w.heap.size) (h3 : w.cell? ⟨b, o + 3, none⟩ = some (.int .i64 x.marks)) (h6 : w.cell? ⟨b, o + 6, none⟩ = some (.bool x.lines)) (t : Tok) : Calls Tryd.prog 34 #[.pointer (some ⟨b, o, none⟩), .pointer (some ⟨cb, 0, none⟩), t.val] w fun r w' => r = .returned (.bool (mayT rs x t)) ∧ Pure w w' := by
  obtain ⟨k, tt, n, m⟩ := t
  by_cases hk : k = 0
  · subst hk
    exact (may_rune hb h3 h6).mono fun r w' h => ⟨by rw [h.1]; rfl, h.2⟩
  · by_cases h1 : tt < 1 ∨ (rs.length : Int) ≤ tt
    · have hs : specOf rs tt = none := by
        unfold specOf
        split
        · rfl
        · rw [List.getElem?_eq_none (by omega)]; rfl
      have hv : mayT rs x ⟨k, tt, n, m⟩ = false := by
        unfold mayT
        rw [if_neg hk]
        simp only [hs]
      rw [hv]
      exact may_out h hne hl h1 hk
    · obtain ⟨j, rfl⟩ : ∃ j : Nat, tt = j := ⟨tt.toNat, by omega⟩
      obtain ⟨y, hy⟩ : ∃ y, rs[j]? = some y := ⟨_, List.getElem?_eq_getElem (by omega)⟩
      obtain ⟨s, e⟩ := y
      have hs : specOf rs j = some s := by
        unfold specOf
        rw [if_neg (by omega), Int.toNat_natCast, hy]; rfl
      have hv : mayT rs x ⟨k, j, n, m⟩ = mayB s ⟨k, j, n, m⟩ := by
        unfold mayT
        rw [if_neg hk]
        simp only [hs]
      rw [hv]
      exact may_in h hl hy (by omega) hk
end Go.Proofs.YtfapglhdakhbeaaDoor
