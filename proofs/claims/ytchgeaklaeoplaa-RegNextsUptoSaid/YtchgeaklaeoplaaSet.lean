/- Sets of places (map[int]bool); reg.machine.step's closure. -/
import Derived.Test.YtchgeaklaeoplaaMade
import Derived.Maps.RangeWalk
import Derived.Maps.OwnSet
namespace Go.Proofs.Ytchgeaklaeoplaa
open Go.RowKit
open Go.Maps (Keyed)
set_option linter.unusedVariables false
set_option linter.unusedSimpArgs false

theorem keyed_int : Keyed Try.prog 3 := Maps.int_keyed Try.underlying3
/-- Block b is a set of ints, of at most n. -/
def SetM (w : World) (b n : Nat) (S : Int → Bool) : Prop := ∃ D : DataW Unit, w.ownsMap Try.prog 3 (plainElem Try.prog 4) b n D ∧ ∀ x, (Lit.int .i64 x).wf = true → Maps.has D (.int .i64 x) = S x
theorem SetM.made (w : World) : SetM (w.alloc (.map #[] 0)) w.heap.size 0 (fun _ => false) := ⟨.map [], World.ownsMap_made _ _ _ _, fun x _ => rfl⟩
theorem SetM.kept {w w1 : World} {b n : Nat} {S : Int → Bool} {R : Nat → Prop} (h : SetM w b n S) (hu : Upd R w w1) (hR : ¬ R b) : SetM w1 b n S := by
  obtain ⟨D, hD, hS⟩ := h
  obtain ⟨es, clock, h1, h2⟩ := hD
  exact ⟨D, ⟨es, clock, by rw [hu.block b (Array.getElem?_eq_some_iff.1 h1).1 hR]; exact h1, h2⟩, hS⟩
theorem SetM.lt {w : World} {b n : Nat} {S : Int → Bool} (h : SetM w b n S) : b < w.heap.size := by
  obtain ⟨D, hD, _⟩ := h
  exact hD.lt
theorem has_put {D : DataW Unit} (hD : Maps.IsMap D) (x y : Int) (d : DataW Unit) (hx : (Lit.int .i64 x).wf = true) : Maps.has (D.put (.int .i64 x) d) (.int .i64 y) = (Maps.has D (.int .i64 y) || decide (y = x)) := by
  by_cases h : y = x
  · subst h
    rw [Maps.has_put_same hD (by trivial) d]
    simp
  · rw [Maps.has_put_other (by simpa using h) d]
    simp [h]
end Go.Proofs.Ytchgeaklaeoplaa
