/- edit.Toggle at a document. -/
import Derived.Test.YteeindicpbcjaaaGreatDoorEdT
namespace Go.Proofs.YteeindicpbcjaaaGreatDoor
open Go.RowKit
set_option linter.unusedVariables false
set_option linter.unusedSimpArgs false

theorem togK_two (l : List Tok) (f t m : Int) : togK l f t m = 2 ∨ togK l f t m = 3 := by unfold togK; split <;> simp
theorem Toggle_calls {w : World} {F : Nat → Prop} {cb : Nat} {A : Option Addr} {c : Nat} {l : List Tok} {f t m : Int} (h : SchR w cb houseRules houseGroups) (hr : tokR.row w F A l) (hlc : l.length ≤ c) (hb : l.length ≤ 1048576 * 4) :
    Calls Tryz.prog 21 #[.pointer (some ⟨cb, 0, none⟩), .slice A l.length c, .int .i64 f, .int .i64 t, .int .i64 m] w (Told (toldS (markS (togK l f t m) f t m) (togErr l f t m)) none 0 (togErr l f t m) w) := by
  have hpl := fun W (hW : Pure w W) => places_calls (f := f) (t := t) (c := c) (h.pure hW) (Rp.row_pure hr hW) hb
  by_cases p0 : placesErr l f t = 0
  · by_cases hm : markOne m
    · obtain ⟨hc, q0, q1, q2⟩ := places_zero.1 p0
      obtain ⟨f, rfl⟩ := Int.eq_ofNat_of_zero_le q0
      obtain ⟨t, rfl⟩ := Int.eq_ofNat_of_zero_le (Int.le_trans q0 q1)
      have hne := house_ne hc
      obtain ⟨bA, oA, rfl⟩ := row_some hr hne
      rw [p0] at hpl
      by_cases hft : f = t
      · subst hft
        have hseg : seg l (f : Int) (f : Int) = [] := by
          unfold seg
          rw [Int.toNat_natCast]
          exact List.drop_eq_nil_of_le (by rw [List.length_take]; omega)
        have he : togErr l f f m = 6 := by
          unfold togErr
          rw [if_neg (by omega), if_neg (fun h => h hm), if_pos (by rw [hseg]; rfl)]
        rw [he]
        exact Toggle_none (F := fun _ => True) (A := none) hm (by omega) hlc hb hpl (toldS_refused (by decide)) rfl
      · by_cases hz : withN m (seg l f t) + woutN m (seg l f t) = 0
        · have he : togErr l f t m = 6 := by
            unfold togErr
            rw [if_neg (by omega), if_neg (fun h => h hm), if_pos hz]
          rw [he]
          exact Toggle_some (A := none) hm hr hlc hb (by omega) (by omega) hpl (fun h9 => by omega) (fun _ => ⟨toldS_refused (by decide), rfl⟩)
        · have he : togErr l f t m = remapErr l (markS (togK l f t m) f t m) := by
            unfold togErr
            rw [if_neg (by omega), if_neg (fun h => h hm), if_neg hz]
          rw [he]
          refine Toggle_some (A := none) hm hr hlc hb (by omega) (by omega) hpl (fun _ W hW => ?_) (fun h9 => absurd h9 hz)
          have := tell_doc (s := markS (togK l f t m) f t m) (B := none) (cs := 0) (G := fun _ => True) (h.pure hW) (Rp.row_pure hr hW) hb (.inl rfl) (by simp [markS]) (fun q0 q1 q2 => doc_mark (togK_two _ _ _ _) hne (Rp.row_pure hr hW) hlc q0 q1 q2)
          have hB : toldB none (remapErr l (markS (togK l f t m) f t m)) = none := by unfold toldB; split <;> rfl
          have hC : toldC 0 (remapErr l (markS (togK l f t m) f t m)) = 0 := by unfold toldC; split <;> rfl
          rw [hB, hC] at this
          exact this
    · have he : togErr l f t m = 1 := by unfold togErr; rw [if_neg (by omega), if_pos hm]
      rw [he]
      exact Toggle_no hpl (.inr ⟨p0, hm, rfl⟩) (toldS_refused (by decide))
  · have he : togErr l f t m = placesErr l f t := by unfold togErr; rw [if_pos p0]
    rw [he]
    exact Toggle_no hpl (.inl ⟨p0, rfl⟩) (toldS_refused p0)
end Go.Proofs.YteeindicpbcjaaaGreatDoor
