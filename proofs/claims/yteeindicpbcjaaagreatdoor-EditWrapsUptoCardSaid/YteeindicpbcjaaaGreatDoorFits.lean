/- schema.fits; slices.ContainsFunc at specs. -/
import Derived.Test.YteeindicpbcjaaaGreatDoorSpecR
import Derived.Test.YteeindicpbcjaaaGreatDoorReg
namespace Go.Proofs.YteeindicpbcjaaaGreatDoor
open Go.RowKit
set_option linter.unusedVariables false
set_option linter.unusedSimpArgs false

def fitsB (s : Spec) : Bool := decide (0 ≤ s.marks) && decide (s.marks < 8) && decide (0 ≤ s.least) && decide (s.least ≤ s.most) && decide (s.most < 16) && (!s.leaf || decide (s.expr.size = 0))
set_option maxRecDepth 100000 in
set_option maxHeartbeats 4000000 in
theorem fits_calls (s : Spec) (w : World) : Calls Tryz.prog 66 #[s.val] w fun r w' => r = .returned (.bool (fitsB s)) ∧ Pure w w' := by
  have he := empty_is s.expr
  cases hq : decide (s.expr.size = 0)
  all_goals
    rw [hq] at he
    cases hl : s.leaf
    all_goals
      have HV := As.mk (show fitsB s = (decide (0 ≤ s.marks) && decide (s.marks < 8) && decide (0 ≤ s.least) && decide (s.least ≤ s.most) && decide (s.most < 16) && (!s.leaf || decide (s.expr.size = 0))) from rfl)
      rw [hq, hl] at HV
      obtain ⟨nm, ex, lf, mk, le, mo, ln⟩ := s
      dsimp only at hl he
      subst hl
      clear hq
      go_enter Tryz.func66, Tryz.ntmps66
      go_wp2
      all_goals go_ret
      all_goals exact ⟨ret_bool (by rw [HV.out]; rw [Bool.eq_iff_iff]; simp <;> omega), (Upd.refl _ _).alloc _⟩
abbrev CloS : Value := .func (.func 65) #[] #[]
set_option maxRecDepth 100000 in
set_option maxHeartbeats 4000000 in
theorem new1_calls (s : Spec) (w : World) : Calls Tryz.prog 65 #[s.val] w fun r w' => r = .returned (.bool (!fitsB s)) ∧ Pure w w' := by
  have HC := As.mk (fun W => fits_calls s W)
  generalize fitsB s = q at *
  obtain ⟨nm, ex, lf, mk, le, mo, ln⟩ := s
  go_enter Tryz.func65, Tryz.ntmps65
  go_wp2_with (go_at_call 66; refine (HC.out _).mono ?_; rintro e w1 ⟨rfl, hu⟩; have HU := As.mk hu; clear hu)
  go_ret
  exact ⟨rfl, (Upd.alloc1 _ _ _).trans HU.out (fun _ _ h => h)⟩
set_option maxRecDepth 100000 in
set_option maxHeartbeats 4000000 in
theorem IndexFuncS_calls {F : Nat → Prop} {A : Option Addr} {c : Nat} {l : List Spec} {w : World} (P : Spec → Bool) (hr : specR.row w F A l) (hb : l.length ≤ 1048576 * 4)
    (hc : ∀ x ∈ l, ∀ w1, Pure w w1 → Calls Tryz.prog 65 #[x.val] w1 fun r w' => r = .returned (.bool (P x)) ∧ Pure w1 w') :
    Calls Tryz.prog 86 #[.slice A l.length c, CloS] w fun r w' => r = .returned (.int .i64 (idxP P 0 l)) ∧ Pure w w' := by
  have HR := As.mk hr
  have HC := As.mk hc
  clear hr hc
  go_enter Tryz.func86, Tryz.ntmps86
  go_wp2
  go_loopg [8] l.length (fun g i wr => ∃ k : Nat, k + g = l.length ∧ i = .int .i64 k ∧ As (idxP P k (l.drop k) = idxP P 0 l) ∧ As (Pure w wr))
  case atStart => exact ⟨0, by omega, rfl, ⟨rfl⟩, ⟨Upd.refl _ _⟩⟩
  case round =>
    obtain ⟨k, hk, rfl, HT, HP⟩ := hrel
    by_cases hlt : k < l.length
    · obtain ⟨x, hx⟩ : ∃ x, l[k]? = some x := ⟨_, List.getElem?_eq_getElem hlt⟩
      obtain ⟨b, o, rfl, hF, hbl, d0, d1, d2, d3, d4, d5, d6⟩ := spec_at (Rp.row_pure HR.out HP.out) hx
      obtain ⟨g1, rfl⟩ : ∃ m, gk = m + 1 := ⟨gk - 1, by omega⟩
      rw [drop_cons' hx] at HT
      have HX := As.mk (List.mem_of_getElem? hx)
      have HK := As.mk hk
      clear hk hx
      cases hq : P x
      · have HV : As (idxP P (k + 1) (l.drop (k + 1)) = idxP P 0 l) := ⟨by rw [← HT.out]; simp [idxP, hq]⟩
        clear HT
        go_wp2_with (go_at_call 65; refine (HC.out x HX.out _ HP.out).mono ?_; rintro e w1 ⟨rfl, hu⟩; rw [hq]; have HU := As.mk hu; clear hu)
        go_roundg g1
        case measure => omega
        case rel => exact ⟨k + 1, by have := HK.out; omega, by go_num, HV, ⟨HP.out.trans HU.out (fun _ _ h => h)⟩⟩
      · have HV : As ((k : Int) = idxP P 0 l) := ⟨by rw [← HT.out]; simp [idxP, hq]⟩
        clear HT
        go_wp2_with (go_at_call 65; refine (HC.out x HX.out _ HP.out).mono ?_; rintro e w1 ⟨rfl, hu⟩; rw [hq]; have HU := As.mk hu; clear hu)
        go_ret
        exact ⟨ret_int HV.out, HP.out.trans HU.out (fun _ _ h => h)⟩
    · have hkl : k = l.length := by omega
      subst hkl
      rw [List.drop_length] at HT
      have HV : As ((-1 : Int) = idxP P 0 l) := ⟨HT.out⟩
      clear HT
      go_wp2
      go_ret
      exact ⟨ret_int HV.out, HP.out⟩
set_option maxRecDepth 100000 in
set_option maxHeartbeats 4000000 in
theorem ContainsFuncS_calls {F : Nat → Prop} {A : Option Addr} {c : Nat} {l : List Spec} {w : World} (P : Spec → Bool) (hr : specR.row w F A l) (hb : l.length ≤ 1048576 * 4)
    (hc : ∀ x ∈ l, ∀ w1, Pure w w1 → Calls Tryz.prog 65 #[x.val] w1 fun r w' => r = .returned (.bool (P x)) ∧ Pure w1 w') :
    Calls Tryz.prog 64 #[.slice A l.length c, CloS] w fun r w' => r = .returned (.bool (l.any P)) ∧ Pure w w' := by
  have HC := As.mk (IndexFuncS_calls (c := c) P hr hb hc)
  have HV := As.mk (idxP_any P l 0)
  clear hr hc
  go_enter Tryz.func64, Tryz.ntmps64
  go_wp2_with (go_at_call 86; refine HC.out.mono ?_; rintro e w1 ⟨rfl, hu⟩; have HU := As.mk hu; clear hu)
  go_ret
  exact ⟨ret_bool HV.out, HU.out⟩

end Go.Proofs.YteeindicpbcjaaaGreatDoor
