/- The law FitSlices: any tokens closed, and their text for any type. Its walk. -/
import Derived.Test.YtlombemkjjalkaaPlain
import Derived.Test.YtlombemkjjalkaaAlike
namespace Go.Proofs.Ytlombemkjjalkaa
open Go.RowKit
set_option linter.unusedVariables false
set_option linter.unusedSimpArgs false

set_option maxRecDepth 100000 in
set_option maxHeartbeats 4000000 in
theorem awake13_calls (w : World) : Calls Try.prog 14 #[] w fun e w' => e = .returned (.bool true) ∧ Pure w w' := by
  have hrow : tokR.row (w.alloc (.cells #[.int .i64 1, .int .i64 1, .int .i64 0, .int .i64 0] 33)) (fun _ => True) (some ⟨w.heap.size, 0, none⟩) [⟨1, 1, 0, 0⟩] :=
    Rp.row_of_block (heap_alloc_new w _) trivial (Reps.single rfl rfl)
  have HR := As.mk hrow
  clear hrow
  go_enter Try.func14, Try.ntmps14
  go_wp2_with (go_at_call 10; refine (Closed_calls HR.out (by simp)).mono ?_; rintro e w1 ⟨v, rfl, ho, hu⟩; obtain ⟨A, c, rfl, _, _⟩ := Rp.own_slice ho; have HU := As.mk hu; clear ho hu)
  go_ret
  exact ⟨rfl, (Upd.alloc1 _ _ _).trans HU.out (fun _ _ h => h)⟩

theorem cloGo_len (l : List Tok) : ∀ d, (cloGo d l).length ≤ 2 * l.length + d := by
  induction l with
  | nil => intro d; simp [cloGo]
  | cons t r ih =>
    intro d
    simp only [cloGo, List.length_cons]
    split
    · have := ih (d + 1); simp; omega
    · split
      · split
        · have := ih d; omega
        · have := ih (d - 1); simp; omega
      · have := ih d; simp; omega
theorem closed_len (l : List Tok) : (closed l).length ≤ 2 * l.length := by have := cloGo_len l 0; unfold closed; omega

/-- The box of a spec, and that it lies there. -/
def BoxS (b : Nat) (s : Spec) (w : World) : Prop := w.cell? ⟨b, 0, none⟩ = some (.string s.name) ∧ w.cell? ⟨b, 1, none⟩ = some (.string s.expr) ∧ w.cell? ⟨b, 2, none⟩ = some (.bool s.leaf) ∧ w.cell? ⟨b, 3, none⟩ = some (.int .i64 s.marks) ∧
  w.cell? ⟨b, 4, none⟩ = some (.int .i64 s.least) ∧ w.cell? ⟨b, 5, none⟩ = some (.int .i64 s.most) ∧ w.cell? ⟨b, 6, none⟩ = some (.bool s.lines) ∧ b < w.heap.size
theorem BoxS.made (w : World) (s : Spec) : BoxS w.heap.size s ((w.alloc (.cells #[.string s.name, .string s.expr, .bool s.leaf, .int .i64 s.marks, .int .i64 s.least, .int .i64 s.most, .bool s.lines] 27)).drew) := by
  have h : ((w.alloc (.cells #[.string s.name, .string s.expr, .bool s.leaf, .int .i64 s.marks, .int .i64 s.least, .int .i64 s.most, .bool s.lines] 27)).drew).heap[w.heap.size]? = some (.cells #[.string s.name, .string s.expr, .bool s.leaf, .int .i64 s.marks, .int .i64 s.least, .int .i64 s.most, .bool s.lines] 27) := heap_alloc_new w _
  refine ⟨?_, ?_, ?_, ?_, ?_, ?_, ?_, (Array.getElem?_eq_some_iff.1 h).1⟩ <;> (rw [Lib.cell_of_heap h]; rfl)
theorem BoxS.keep {b : Nat} {s : Spec} {w w1 : World} (hu : Stp w w1) (h : BoxS b s w) : BoxS b s w1 := by
  obtain ⟨h0, h1, h2, h3, h4, h5, h6, hb⟩ := h
  obtain ⟨oc, _⟩ := hu.out.olds
  refine ⟨?_, ?_, ?_, ?_, ?_, ?_, ?_, Nat.lt_of_lt_of_le hb hu.out.size⟩ <;> (rw [oc _ _ hb]; assumption)

set_option maxRecDepth 100000 in
set_option maxHeartbeats 4000000 in
theorem FitSlices_walk {F : Nat → Prop} {A : Option Addr} {c : Nat} {l : List Tok} {s : Spec} {w : World} (hr : tokR.row w F A l) (hb : l.length ≤ 1048576) :
    Calls Try.prog 4 #[.slice A l.length c, s.val] w fun e w' => e = .returned (.bool true) ∧ Pure w w' := by
  have HR := As.mk hr
  clear hr
  have HA : As (Pure w ((w.alloc (.cells #[.string s.name, .string s.expr, .bool s.leaf, .int .i64 s.marks, .int .i64 s.least, .int .i64 s.most, .bool s.lines] 27)).drew)) := ⟨(Upd.alloc1 _ _ _).drew⟩
  have hS0 : BoxS w.heap.size s ((w.alloc (.cells #[.string s.name, .string s.expr, .bool s.leaf, .int .i64 s.marks, .int .i64 s.least, .int .i64 s.most, .bool s.lines] 27)).drew) := BoxS.made w s
  have hcl := closed_len l
  have hpl := plain_len l s
  go_enter Try.func4, Try.ntmps4
  go_wp2
  go_region_held3 (fun w' => w'.cell? ⟨w.heap.size, 0, none⟩ = some (.string s.name) ∧ w'.cell? ⟨w.heap.size, 1, none⟩ = some (.string s.expr) ∧ w'.cell? ⟨w.heap.size, 2, none⟩ = some (.bool s.leaf) ∧ w'.cell? ⟨w.heap.size, 3, none⟩ = some (.int .i64 s.marks) ∧
      w'.cell? ⟨w.heap.size, 4, none⟩ = some (.int .i64 s.least) ∧ w'.cell? ⟨w.heap.size, 5, none⟩ = some (.int .i64 s.most) ∧ w'.cell? ⟨w.heap.size, 6, none⟩ = some (.bool s.lines) ∧ w.heap.size < w'.heap.size)
    (first | exact hS0 | exact BoxS.keep (by assumption) (by assumption))
    (first
      | (go_at_call 10; refine (Closed_calls (Rp.row_pure HR.out HA.out) (by omega)).mono ?_; rintro e w1 ⟨v, rfl, ho, hu⟩; obtain ⟨A1, c1, rfl, hc1, hr1⟩ := Rp.own_slice ho; have HR1 := As.mk hr1; have HU1 := As.mk hu; have HZ1 := Stp.mk hu; have HA1 := As.mk (HA.out.trans hu (fun _ _ h => h)); clear ho hu hr1)
      | (go_at_call 11; refine (Closed13_calls (Rp.row_pure HR.out HA1.out) (by omega)).mono ?_; rintro e w2 ⟨v, rfl, ho, hu⟩; obtain ⟨A2, c2, rfl, hc2, hr2⟩ := Rp.own_slice ho; have HR2 := As.mk hr2; have HU2 := As.mk hu; have HZ2 := Stp.mk hu; have HA2 := As.mk (HA1.out.trans hu (fun _ _ h => h)); clear ho hu hr2)
      | (go_at_call 9; refine (Alike_same (Rp.row_pure HR4.out HU5.out) HR5.out (by omega)).mono ?_; rintro e w6 ⟨rfl, hu⟩; have HU6 := As.mk hu; have HZ6 := Stp.mk hu; have HA6 := As.mk (HA5.out.trans hu (fun _ _ h => h)); clear hu)
      | (go_at_call 9; refine (Alike_same (Rp.row_pure HR1.out HU2.out) HR2.out (by omega)).mono ?_; rintro e w3 ⟨rfl, hu⟩; have HU3 := As.mk hu; have HZ3 := Stp.mk hu; have HA3 := As.mk (HA2.out.trans hu (fun _ _ h => h)); clear hu)
      | (go_at_call 12; refine (Plain_calls (s := s) (Rp.row_pure HR.out HA3.out) (by omega)).mono ?_; rintro e w4 ⟨v, rfl, ho, hu⟩; obtain ⟨A4, c4, rfl, hc4, hr4⟩ := Rp.own_slice ho; have HR4 := As.mk hr4; have HU4 := As.mk hu; have HZ4 := Stp.mk hu; have HA4 := As.mk (HA3.out.trans hu (fun _ _ h => h)); clear ho hu hr4)
      | (go_at_call 13; refine (Plain13_calls (s := s) (Rp.row_pure HR.out HA4.out) (by omega)).mono ?_; rintro e w5 ⟨v, rfl, ho, hu⟩; obtain ⟨A5, c5, rfl, hc5, hr5⟩ := Rp.own_slice ho; have HR5 := As.mk hr5; have HU5 := As.mk hu; have HZ5 := Stp.mk hu; have HA5 := As.mk (HA4.out.trans hu (fun _ _ h => h)); clear ho hu hr5)
      | (go_at_call 14; refine (awake13_calls _).mono ?_; rintro e w7 ⟨rfl, hu⟩; have HU7 := As.mk hu; have HZ7 := Stp.mk hu; have HA7 := As.mk (HA6.out.trans hu (fun _ _ h => h)); clear hu))
  go_wp2
  go_ret
  exact ⟨rfl, HA7.out⟩
end Go.Proofs.Ytlombemkjjalkaa
