/- slices.Index, slices.Contains, slices.Clone at ints: what they tell. -/
import Derived.Test.YtfapglhdakhbeaaGreatDoorExpr
import Derived.Test.YtfapglhdakhbeaaGreatDoorHeldZ
import Derived.Lib.SliceRun
namespace Go.Proofs.YtfapglhdakhbeaaGreatDoor
open Go.RowKit
set_option linter.unusedVariables false
set_option linter.unusedSimpArgs false

theorem int_own_fp {e : Nat} {w : World} {F : Nat → Prop} {v : Value} {xs : List Int} (h : intR.own e w F v xs) : intR.own e w (fun k => v.ownBlock = some k) v xs := by
  obtain ⟨inner, h1, h2, h3⟩ := h
  exact ⟨inner, h1, fun _ hk => hk, h3⟩
theorem int_own_fp' {e : Nat} {w : World} {F G : Nat → Prop} {v : Value} {xs : List Int} (h : intR.own e w F v xs) (hG : ∀ k, v.ownBlock = some k → G k) : intR.own e w G v xs := by
  obtain ⟨inner, h1, h2, h3⟩ := h
  exact ⟨inner, h1, hG, h3⟩
def posI (v : Int) : Nat → List Int → Int
  | _, [] => -1
  | k, x :: r => if x = v then (k : Int) else posI v (k + 1) r
theorem posI_mem (v : Int) (l : List Int) (k : Nat) : decide (posI v k l ≥ 0) = decide (v ∈ l) := by
  induction l generalizing k with
  | nil => simp [posI]
  | cons x r ih =>
    by_cases h : x = v
    · simp [posI, h]
    · have h' : ¬ v = x := fun e => h e.symm
      simp [posI, h, h', ih]
theorem int_drop {l : List Int} {k : Nat} {x : Int} (h : l[k]? = some x) : l.drop k = x :: l.drop (k + 1) := by
  obtain ⟨hk, he⟩ := List.getElem?_eq_some_iff.1 h
  rw [List.drop_eq_getElem_cons hk, he]

set_option maxRecDepth 100000 in
set_option maxHeartbeats 4000000 in
theorem Index_calls {F : Nat → Prop} {A : Option Addr} {c : Nat} {l : List Int} {w : World} (v : Int) (hr : intR.row w F A l) (hb : l.length ≤ 1048576 * 4) :
    Calls Tryz.prog 205 #[.slice A l.length c, .int .i64 v] w fun r w' => r = .returned (.int .i64 (posI v 0 l)) ∧ w = w' := by
  have HR := As.mk hr
  clear hr
  go_enter Tryz.func205, Tryz.ntmps205
  go_wp2
  go_loopg [8] l.length (fun g i wr => ∃ k : Nat, k + g = l.length ∧ i = .int .i64 k ∧ As (posI v k (l.drop k) = posI v 0 l) ∧ w = wr)
  case atStart => exact ⟨0, by omega, rfl, ⟨rfl⟩, rfl⟩
  case round =>
    obtain ⟨k, hk, rfl, HT, rfl⟩ := hrel
    by_cases hlt : k < l.length
    · obtain ⟨x, hx⟩ : ∃ x, l[k]? = some x := ⟨_, List.getElem?_eq_getElem hlt⟩
      obtain ⟨b, o, rfl, hF, hbl, d0⟩ := int_at HR.out hx
      obtain ⟨g1, rfl⟩ : ∃ m, gk = m + 1 := ⟨gk - 1, by omega⟩
      rw [int_drop hx] at HT
      have HK := As.mk hk
      clear hk hx
      by_cases hq : x = v
      · have HV : As ((k : Int) = posI v 0 l) := ⟨by rw [← HT.out, posI, if_pos hq]⟩
        have e1 : (v == x) = true := by simp [hq]
        clear HT
        go_wp2
        go_ret
        exact ⟨by rw [← HV.out]; rfl, rfl⟩
      · have HV : As (posI v (k + 1) (l.drop (k + 1)) = posI v 0 l) := ⟨by rw [← HT.out, posI, if_neg hq]⟩
        have e1 : (v == x) = false := by simp; exact fun e => hq e.symm
        clear HT
        go_wp2
        go_roundg g1
        case measure => omega
        case rel => exact ⟨k + 1, by have := HK.out; omega, by go_num, HV, rfl⟩
    · have hkl : k = l.length := by omega
      subst hkl
      rw [List.drop_length] at HT
      have HV : As ((-1 : Int) = posI v 0 l) := ⟨HT.out⟩
      clear HT
      go_wp2
      go_ret
      exact ⟨by rw [← HV.out]; rfl, rfl⟩
set_option maxRecDepth 100000 in
set_option maxHeartbeats 4000000 in
theorem Contains_calls {F : Nat → Prop} {A : Option Addr} {c : Nat} {l : List Int} {w : World} (v : Int) (hr : intR.row w F A l) (hb : l.length ≤ 1048576 * 4) :
    Calls Tryz.prog 175 #[.slice A l.length c, .int .i64 v] w fun r w' => r = .returned (.bool (decide (v ∈ l))) ∧ w = w' := by
  have HC := As.mk (Index_calls (c := c) v hr hb)
  have HV := As.mk (posI_mem v l 0)
  clear hr
  go_enter Tryz.func175, Tryz.ntmps175
  go_wp2_with (go_at_call 205; refine HC.out.mono ?_; rintro e w1 ⟨rfl, rfl⟩)
  go_ret
  exact ⟨by rw [← HV.out]; rfl, rfl⟩
set_option maxRecDepth 100000 in
set_option maxHeartbeats 4000000 in
theorem Clone_calls {F : Nat → Prop} {A : Option Addr} {c : Nat} {l : List Int} {w : World} (hr : intR.row w F A l) (hb : l.length ≤ 1048576 * 4) :
    Calls Tryz.prog 130 #[.slice A l.length c] w fun r w' => ∃ v, r = .returned v ∧ intR.own 3 w' (fun k => w.heap.size ≤ k) v l ∧ Pure w w' := by
  have HR := As.mk hr
  have heqn := fun (W : World) (a : Option Addr) (n c : Nat) => Lib.run_eql_slice_nil (P := Tryz.prog) W 86 3 a n c 0 0 Tryz.underlying86
  cases A with
  | none =>
    have hl : l = [] := by
      rcases hr with h | ⟨_, _, h, _⟩
      · exact h
      · cases h
    subst hl
    clear hr
    go_enter Tryz.func130, Tryz.ntmps130
    go_wp2
    go_ret
    exact ⟨_, rfl, Rp.own_nil _ _ _ _, Upd.refl _ _⟩
  | some ad =>
    clear hr
    have HO : As (intR.own 3 (w.alloc (.cells #[] 3)) (fun k => w.heap.size ≤ k) (.slice (some ⟨w.heap.size, 0, none⟩) 0 0) []) :=
      ⟨[], ⟨by simp, .inr ⟨w.heap.size, 0, #[], rfl, Nat.zero_le _, heap_alloc_new w _, Nat.le_refl _, by simp [maxLen], by simp, by simp⟩⟩, fun k hk => by simp [Value.ownBlock] at hk; omega, Reps.nil _ _⟩
    go_enter Tryz.func130, Tryz.ntmps130
    go_wp2_with (at_builtin; refine Rp.append_row intR (c := c) HO.out (Rp.row'_of (Rp.row_pure HR.out (Upd.alloc1 _ _ _)) (fun _ _ h => h)) (Fz := fun _ => False) (fun _ h => h.elim) rfl _ _ 86 (.int .i64 0) 8 rfl Tryz.underlying86 int_info rfl (by decide) (by decide) (by rfl) (by rfl) (by simp; omega) ?_; intro v1 w1 ho1 hu1 hat; have HO1 := As.mk ho1; have HU1 := As.mk hu1; have HAT := As.mk hat; clear ho1 hu1 hat)
    go_ret
    exact ⟨v1, rfl, int_own_fp' HO1.out (fun k hk => by
      rcases HAT.out with h | ⟨b, hb, hle⟩
      · rw [h] at hk; simp [Value.ownBlock] at hk; omega
      · rw [hb] at hk; injection hk with hk; simp at hle; omega), Upd.trans (Upd.alloc1 _ _ _) HU1.out (fun k hk h => by simp [Value.ownBlock] at h; omega)⟩
end Go.Proofs.YtfapglhdakhbeaaGreatDoor
