/- The house's schema: what Check says. -/
import Derived.Test.YtfapglhdakhbeaaGreatDoorCheck
namespace Go.Proofs.YtfapglhdakhbeaaGreatDoor
open Go.RowKit
set_option linter.unusedVariables false
set_option linter.unusedSimpArgs false

theorem toks_reps (w : World) (F : Nat → Prop) : ∀ l : List Tok, Reps (tokR.rep w F) 4 l (l.flatMap Tok.cs)
  | [] => Reps.nil _ _
  | x :: r => by
    rw [List.flatMap_cons]
    exact Reps.append (xs := [x]) (Reps.single (R := tokR.rep w F) (show tokR.rep w F x x.cs from rfl) rfl) (toks_reps w F r)
theorem row_toks {w : World} {F : Nat → Prop} {b : Nat} {l : List Tok} {e : TypeId} {fr : Nat × Nat} (hb : w.heap[b]? = some (.cells (l.flatMap Tok.cs).toArray e fr)) (hF : F b) : tokR.row w F (some ⟨b, 0, none⟩) l :=
  Rp.row_of_block hb hF (toks_reps w F l)
theorem house_len : houseRules.length = 8 := by kernel_rfl
theorem house_ok : SchOk houseRules houseGroups := by
  refine ⟨fun h => ?_, ?_, fun p hp => ?_, ?_, fun x hx => ?_⟩
  · have := house_len
    rw [h] at this
    cases this
  · rw [house_len]; decide
  · have h : houseRules.all (fun p => decide (p.2.wt ≤ 1048576 * 4)) = true := by kernel_rfl
    simpa using List.all_eq_true.1 h p hp
  · have h : decide (houseGroups.length ≤ 1048576) = true := by kernel_rfl
    exact of_decide_eq_true h
  · have h : houseGroups.all (fun x => decide (x.types.length ≤ 1048576)) = true := by kernel_rfl
    simpa using List.all_eq_true.1 h x hx
abbrev houseCheck (l : List Tok) : Int × Int := schemaCheck houseRules houseGroups l
theorem house_check {w : World} {cb : Nat} {F : Nat → Prop} {A : Option Addr} {c : Nat} {l : List Tok} (h : SchR w cb houseRules houseGroups) (hr : tokR.row w F A l) (hb : l.length ≤ 1048576 * 4) :
    Calls Tryz.prog 17 #[.pointer (some ⟨cb, 0, none⟩), .slice A l.length c] w fun e w' => e = .returned (.tuple #[.int .i64 (houseCheck l).1, .int .i64 (houseCheck l).2]) ∧ Pure w w' := SchemaCheck_calls h house_ok hr hb
abbrev awakeDoc : List Tok := [⟨1, 1, 0, 0⟩, ⟨2, 0, 0, 0⟩]
theorem awake_doc : houseCheck awakeDoc = (2, 0) := by kernel_rfl
theorem awake_nil : houseCheck [] = (0, 9) := by kernel_rfl
end Go.Proofs.YtfapglhdakhbeaaGreatDoor
