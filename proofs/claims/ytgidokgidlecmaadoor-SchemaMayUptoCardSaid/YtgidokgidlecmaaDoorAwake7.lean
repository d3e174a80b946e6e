/- emenderlaw07: awake. -/
import Derived.Test.YtgidokgidlecmaaDoorCheck
namespace Go.Proofs.YtgidokgidlecmaaDoor
open Go.RowKit
set_option linter.unusedVariables false
set_option linter.unusedSimpArgs false

theorem toks_reps (w : World) (F : Nat → Prop) : ∀ l : List Tok, Reps (tokR.rep w F) 4 l (l.flatMap Tok.cs)
  | [] => Reps.nil _ _
  | x :: r => by
    rw [List.flatMap_cons]
    exact Reps.append (xs := [x]) (Reps.single (R := tokR.rep w F) (show tokR.rep w F x x.cs from rfl) rfl) (toks_reps w F r)
theorem row_toks {w : World} {F : Nat → Prop} {b : Nat} {l : List Tok} {e : TypeId} {fr : Nat × Nat} (hb : w.heap[b]? = some (.cells (l.flatMap Tok.cs).toArray e fr)) (hF : F b) : tokR.row w F (some ⟨b, 0, none⟩) l :=
  Rp.row_of_block hb hF (toks_reps w F l)
theorem house_len : houseRules.length = 8 := by kernel_rfl
theorem house_ok : SchOk houseRules houseGroups := by
  refine ⟨fun h => ?_, ?_, fun p hp => ?_, ?_, fun x hx => ?_⟩
  · have := house_len
    rw [h] at this
    cases this
  · rw [house_len]; decide
  · have h : houseRules.all (fun p => decide (p.2.wt ≤ 1048576 * 4)) = true := by kernel_rfl
    simpa using List.all_eq_true.1 h p hp
  · have h : decide (houseGroups.length ≤ 1048576) = true := by kernel_rfl
    exact of_decide_eq_true h
  · have h : houseGroups.all (fun x => decide (x.types.length ≤ 1048576)) = true := by kernel_rfl
    simpa using List.all_eq_true.1 h x hx
abbrev houseCheck (l : List Tok) : Int × Int := schemaCheck houseRules houseGroups l
theorem house_check {w : World} {cb : Nat} {F : Nat → Prop} {A : Option Addr} {c : Nat} {l : List Tok} (h : SchR w cb houseRules houseGroups) (hr : tokR.row w F A l) (hb : l.length ≤ 1048576 * 4) :
    Calls Tryd.prog 9 #[.pointer (some ⟨cb, 0, none⟩), .slice A l.length c] w fun e w' => e = .returned (.tuple #[.int .i64 (houseCheck l).1, .int .i64 (houseCheck l).2]) ∧ Pure w w' := SchemaCheck_calls h house_ok hr hb
abbrev awakeDoc : List Tok := [⟨1, 1, 0, 0⟩, ⟨2, 0, 0, 0⟩]
theorem awake_doc : houseCheck awakeDoc = (2, 0) := by kernel_rfl
theorem awake_nil : houseCheck [] = (0, 9) := by kernel_rfl
set_option maxRecDepth 100000 in
set_option maxHeartbeats 4000000 in
theorem awake7_calls (w : World) : Calls Tryd.prog 10 #[] w fun r w' => r = .returned (.bool true) ∧ Pure w w' := by
  have HH := As.mk (fun W => House_calls W)
  have HC1 := As.mk (fun (W : World) (cb : Nat) (hs : SchR W cb houseRules houseGroups) => (by
    have hp : Pure W (W.alloc (.cells #[.int .i64 1, .int .i64 1, .int .i64 0, .int .i64 0, .int .i64 2, .int .i64 0, .int .i64 0, .int .i64 0] 31)) := Upd.alloc1 _ _ _
    have h1 := house_check (c := 2) (l := awakeDoc) (hs.pure hp) (row_toks (F := fun _ => True) (heap_alloc_new W _) trivial) (by decide)
    rw [awake_doc] at h1
    exact h1.mono fun r w' h => ⟨h.1, hp.trans h.2 (fun _ _ h => h)⟩ :
    Calls Tryd.prog 9 #[.pointer (some ⟨cb, 0, none⟩), .slice (some ⟨W.heap.size, 0, none⟩) 2 2] (W.alloc (.cells #[.int .i64 1, .int .i64 1, .int .i64 0, .int .i64 0, .int .i64 2, .int .i64 0, .int .i64 0, .int .i64 0] 31)) fun e w' => e = .returned (.tuple #[.int .i64 2, .int .i64 0]) ∧ Pure W w'))
  have HC2 := As.mk (fun (W : World) (cb : Nat) (hs : SchR W cb houseRules houseGroups) => (by
    have h1 := house_check (c := 0) (l := []) (F := fun _ => True) (A := none) hs (.inl rfl) (by decide)
    rw [awake_nil] at h1
    exact h1 : Calls Tryd.prog 9 #[.pointer (some ⟨cb, 0, none⟩), .slice none 0 0] W fun e w' => e = .returned (.tuple #[.int .i64 0, .int .i64 9]) ∧ Pure W w'))
  go_enter Tryd.func10, Tryd.ntmps10
  go_wp2_with (first | (go_at_call 9; refine (HC2.out _ _ HS3.out).mono ?_; rintro r w4 ⟨rfl, hu⟩; have HU4 := As.mk (HU3.out.trans hu (fun _ _ h => h)); clear hu) | (go_at_call 6; refine (HH.out w2).mono ?_; rintro r w3 ⟨cb3, rfl, hs, hu⟩; have HS3 := As.mk hs; have HU3 := As.mk (HU2.out.trans hu (fun _ _ h => h)); clear hu hs) | (go_at_call 9; refine (HC1.out _ _ HS1.out).mono ?_; rintro r w2 ⟨rfl, hu⟩; have HU2 := As.mk (HU1.out.trans hu (fun _ _ h => h)); clear hu) | (go_at_call 6; refine (HH.out w).mono ?_; rintro r w1 ⟨cb1, rfl, hs, hu⟩; have HS1 := As.mk hs; have HU1 := As.mk hu; clear hu hs))
  go_ret
  exact ⟨rfl, HU4.out⟩
end Go.Proofs.YtgidokgidlecmaaDoor
