/- emenderlaw06: awake. -/
import Derived.Test.YtchgeaklaeoplaaAcc
namespace Go.Proofs.Ytchgeaklaeoplaa
open Go.RowKit
set_option linter.unusedVariables false
set_option linter.unusedSimpArgs false

abbrev nameA : ByteArray := ⟨#[97]⟩
theorem awake_says : regAccepts (.mk 1 nameA []) [⟨nameA, [1]⟩] [1] = true := by kernel_rfl

/-- A row of one group, of one int: read. -/
theorem row_ints {w : World} {F : Nat → Prop} {b : Nat} {l : List Int} {e : TypeId} {fr : Nat × Nat} (hb : w.heap[b]? = some (.cells (l.map (Value.int .i64)).toArray e fr)) (hF : F b) : intR.row w F (some ⟨b, 0, none⟩) l := by
  refine Rp.row_of_block hb hF ⟨by simp [show intR.sz = 1 from rfl], fun j x hx => ?_⟩
  show _ = _
  rw [show intR.sz = 1 from rfl, Nat.mul_one]
  have h2 : (l.map (Value.int .i64))[j]? = some (.int .i64 x) := by rw [List.getElem?_map, hx]; rfl
  obtain ⟨hj, he⟩ := List.getElem?_eq_some_iff.1 h2
  rw [List.drop_eq_getElem_cons hj, he]
  rfl

set_option maxRecDepth 100000 in
set_option maxHeartbeats 4000000 in
theorem awake_calls {w : World} : Calls Try.prog 9 #[] w fun r w' => r = .returned (.bool true) ∧ Pure w w' := by
  have hp : Pure w (((w.alloc (.cells #[.int .i64 1] 3)).alloc (.cells #[.string nameA, .slice (some ⟨w.heap.size, 0, none⟩) 1 1] 34)).alloc (.cells #[.int .i64 1] 3)) := ((Upd.alloc1 _ _ _).alloc _).alloc _
  have HA : As (Calls Try.prog 10 #[.agg #[.int .i64 1, .string nameA, .slice none 0 0], .slice (some ⟨w.heap.size + 1, 0, none⟩) 1 1, .slice (some ⟨w.heap.size + 1 + 1, 0, none⟩) 1 1] (((w.alloc (.cells #[.int .i64 1] 3)).alloc (.cells #[.string nameA, .slice (some ⟨w.heap.size, 0, none⟩) 1 1] 34)).alloc (.cells #[.int .i64 1] 3)) fun r w' => r = .returned (.bool true) ∧ Pure (((w.alloc (.cells #[.int .i64 1] 3)).alloc (.cells #[.string nameA, .slice (some ⟨w.heap.size, 0, none⟩) 1 1] 34)).alloc (.cells #[.int .i64 1] 3)) w') := by
    generalize hW : ((w.alloc (.cells #[.int .i64 1] 3)).alloc (.cells #[.string nameA, .slice (some ⟨w.heap.size, 0, none⟩) 1 1] 34)).alloc (.cells #[.int .i64 1] 3) = W
    have b0 : W.heap[w.heap.size]? = some (.cells #[.int .i64 1] 3 (0, 0)) := by
      rw [← hW]
      exact (Below.heap_alloc _ _ _ (by simp; try omega)).trans ((Below.heap_alloc _ _ _ (by simp)).trans (heap_alloc_new w _))
    have b1 : W.heap[w.heap.size + 1]? = some (.cells #[.string nameA, .slice (some ⟨w.heap.size, 0, none⟩) 1 1] 34 (0, 0)) := by
      rw [← hW]
      exact (Below.heap_alloc _ _ _ (by simp; try omega)).trans (heap_alloc2_new w _ _)
    have b2 : W.heap[w.heap.size + 1 + 1]? = some (.cells #[.int .i64 1] 3 (0, 0)) := by
      rw [← hW]
      have := heap_alloc_new ((w.alloc (.cells #[.int .i64 1] 3)).alloc (.cells #[.string nameA, .slice (some ⟨w.heap.size, 0, none⟩) 1 1] 34)) (.cells #[.int .i64 1] 3)
      simpa using this
    have hlt : ∀ {b : Nat} {o : Obj}, W.heap[b]? = some o → b < W.heap.size := fun h => (Array.getElem?_eq_some_iff.1 h).1
    have r0 : intR.row W (fun k => k < W.heap.size) (some ⟨w.heap.size, 0, none⟩) [1] := row_ints (l := [1]) b0 (hlt b0)
    have r2 : intR.row W (fun k => k < W.heap.size) (some ⟨w.heap.size + 1 + 1, 0, none⟩) [1] := row_ints (l := [1]) b2 (hlt b2)
    have r1 : grpR.row W (fun k => k < W.heap.size) (some ⟨w.heap.size + 1, 0, none⟩) [⟨nameA, [1]⟩] :=
      Rp.row_of_block b1 (hlt b1) (Reps.single (R := grpR.rep W (fun k => k < W.heap.size)) (size := grpR.sz) ⟨some ⟨w.heap.size, 0, none⟩, 1, rfl, Nat.le_refl _, r0⟩ rfl)
    have := accepts_calls (c := 0) (d := 1) (cw := 1) (e := .mk 1 nameA []) (g := [⟨nameA, [1]⟩]) (word := [1]) (A := none) (w := W) ⟨.inl rfl, r1, of_decide_eq_true (by kernel_rfl), by decide, by simp⟩ r2 (by decide)
    rw [awake_says] at this
    exact ⟨this⟩
  have HP := As.mk hp
  clear hp
  go_enter Try.func9, Try.ntmps9
  go_wp2_with (go_at_call 10; refine HA.out.mono ?_; rintro e w1 ⟨rfl, hu⟩)
  go_ret
  exact ⟨rfl, HP.out.trans hu (fun _ _ h => h)⟩
end Go.Proofs.Ytchgeaklaeoplaa
