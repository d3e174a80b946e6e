/- flat.Partner of what opens, of a leaf. -/
import Derived.Test.YtfapglhdakhbeaaGreatDoorRowK
namespace Go.Proofs.YtfapglhdakhbeaaGreatDoor
open Go.RowKit
set_option linter.unusedVariables false
set_option linter.unusedSimpArgs false

set_option maxRecDepth 100000 in
set_option maxHeartbeats 4000000 in
theorem Partner_leaf {F : Nat → Prop} {A : Option Addr} {c : Nat} {l : List Tok} {w : World} {i : Nat} {y : Tok} (hr : tokR.row w F A l) (hb : l.length ≤ 1048576 * 4) (hy : l[i]? = some y) (h1 : y.k ≠ 1) (h2 : y.k ≠ 2) :
    Calls Tryz.prog 108 #[.slice A l.length c, .int .i64 i] w fun e w' => e = .returned (.int .i64 (-1)) ∧ Pure w w' := by
  have hil : i < l.length := (List.getElem?_eq_some_iff.1 hy).1
  obtain ⟨by', oy', rfl, _, hby, f0, f1, f2, f3⟩ := tok_at hr hy
  have e1 : (y.k == 1) = false := by simpa using h1
  have e2 : (y.k == 2) = false := by simpa using h2
  have t1 : decide ((i : Int) < 0) = false := by simp
  have t2 : decide ((i : Int) ≥ (l.length : Int)) = false := by simp; omega
  have t3 : decide ((l.length : Int) ≤ (i : Int)) = false := by simp; omega
  have t6 : decide (l.length ≤ i) = false := by simp; omega
  clear hr hy h1 h2
  go_enter Tryz.func108, Tryz.ntmps108
  go_wp2
  go_ret
  exact ⟨rfl, Upd.refl _ _⟩
set_option maxRecDepth 100000 in
set_option maxHeartbeats 4000000 in
theorem Partner_open {F : Nat → Prop} {A : Option Addr} {c : Nat} {l : List Tok} {w : World} {i : Nat} {y : Tok} (hr : tokR.row w F A l) (hb : l.length ≤ 1048576 * 4) (hlc : l.length ≤ c) (hy : l[i]? = some y) (h1 : y.k = 1) :
    Calls Tryz.prog 108 #[.slice A l.length c, .int .i64 i] w fun e w' => e = .returned (.int .i64 (partL l i)) ∧ Pure w w' := by
  have HR := As.mk hr
  have hil : i < l.length := (List.getElem?_eq_some_iff.1 hy).1
  obtain ⟨by', oy', rfl, _, hby, f0, f1, f2, f3⟩ := tok_at hr hy
  rw [h1] at f0
  have t1 : decide ((i : Int) < 0) = false := by simp
  have t2 : decide ((i : Int) ≥ (l.length : Int)) = false := by simp; omega
  have t3 : decide ((l.length : Int) ≤ (i : Int)) = false := by simp; omega
  have t6 : decide (l.length ≤ i) = false := by simp; omega
  obtain ⟨m, hm⟩ : ∃ m, l.length = i + m := ⟨l.length - i, by omega⟩
  have HM := As.mk hm
  have hle1 : i ≤ c := by omega
  have hle2 : i + m ≤ c := by omega
  clear hr hy h1
  rw [hm] at t2 t3 t6 hil
  rw [hm]
  go_enter Tryz.func108, Tryz.ntmps108
  go_wp2
  go_loopg [5, 32] m (fun gg dv kv wr => ∃ (k : Nat) (d : Int), k + gg = m ∧ dv = .int .i64 d ∧ kv = .int .i64 k ∧ d ≤ k ∧ -(k : Int) ≤ d ∧ As (ptGo k d (l.drop (i + k)) = ptGo 0 0 (l.drop i) ∧ Pure w wr))
  case atStart => exact ⟨0, 0, by omega, rfl, rfl, by omega, by omega, ⟨rfl, Upd.refl _ _⟩⟩
  case round =>
    obtain ⟨k, d, hk, rfl, rfl, hdk, hdk2, HC⟩ := hrel
    by_cases hlt : k < m
    · obtain ⟨x, hx⟩ : ∃ x, l[i + k]? = some x := ⟨_, List.getElem?_eq_getElem (by have := HM.out; omega)⟩
      obtain ⟨heq, hp⟩ := HC.out
      obtain ⟨b, o, hA, hFb, hbb, d0, d1, d2, d3⟩ := tok_at (Rp.row_pure HR.out hp) hx
      simp only [Option.some.injEq, Addr.mk.injEq] at hA
      obtain ⟨rfl, rfl, _⟩ := hA
      rw [Nat.add_mul, ← Nat.add_assoc] at d0 d1 d2 d3
      obtain ⟨g1, rfl⟩ : ∃ m, gk = m + 1 := ⟨gk - 1, by omega⟩
      rw [drop_cons hx, ptGo, Nat.add_assoc i k 1] at heq
      have HP := As.mk hp
      have HK := As.mk hk
      have hml := HM.out
      have hw1 : IntKind.i64.wrap (d + 1) = d + 1 := IntWalk.i64_in _ (by omega)
      have hw2 : IntKind.i64.wrap (d - 1) = d - 1 := IntWalk.i64_in _ (by omega)
      have hw3 : IntKind.i64.wrap ((i : Int) + k) = (i : Int) + k := IntWalk.i64_in _ (by omega)
      clear hp hk hx HC hml
      by_cases h1 : x.k = 1
      · have e1 : (x.k == 1) = true := by simp [h1]
        rw [if_pos h1] at heq
        have HE := As.mk heq
        clear heq h1
        go_wp2
        go_roundg g1
        case measure => omega
        case rel => exact ⟨k + 1, d + 1, by have := HK.out; omega, by first | rfl | go_num, by go_num, by omega, by omega, ⟨HE.out, HP.out.alloc _⟩⟩
      · have e1 : (x.k == 1) = false := by simp [h1]
        rw [if_neg h1] at heq
        by_cases h2 : x.k = 2
        · have e2 : (x.k == 2) = true := by simp [h2]
          rw [if_pos h2] at heq
          by_cases hd : d - 1 = 0
          · have e3 : (d - 1 == 0) = true := by simpa using hd
            rw [if_pos hd] at heq
            have HE := As.mk (show ((i : Int) + (k : Int)) = partL l i by unfold partL; rw [← heq])
            clear heq h1 h2 hd
            go_wp2
            go_ret
            exact ⟨by rw [← HE.out]; rfl, HP.out.alloc _⟩
          · have e3 : (d - 1 == 0) = false := by simpa using hd
            rw [if_neg hd] at heq
            have HE := As.mk heq
            clear heq h1 h2 hd
            go_wp2
            go_roundg g1
            case measure => omega
            case rel => exact ⟨k + 1, d - 1, by have := HK.out; omega, by first | rfl | go_num, by go_num, by omega, by omega, ⟨HE.out, HP.out.alloc _⟩⟩
        · have e2 : (x.k == 2) = false := by simp [h2]
          rw [if_neg h2] at heq
          have HE := As.mk heq
          clear heq h1 h2
          go_wp2
          go_roundg g1
          case measure => omega
          case rel => exact ⟨k + 1, d, by have := HK.out; omega, by first | rfl | go_num, by go_num, by omega, by omega, ⟨HE.out, HP.out.alloc _⟩⟩
    · obtain rfl : k = m := by omega
      obtain ⟨heq, hp⟩ := HC.out
      rw [← HM.out, List.drop_length, ptGo] at heq
      have HE := As.mk (show (-1 : Int) = partL l i by unfold partL; rw [← heq])
      have HP := As.mk hp
      clear heq hp HC
      go_wp2
      go_ret
      exact ⟨by rw [← HE.out]; rfl, HP.out⟩
end Go.Proofs.YtfapglhdakhbeaaGreatDoor
