/- emenderref08: Right, shift. -/
import Derived.Test.YtfapglhdakhbeaaDoorRng8
namespace Go.Proofs.YtfapglhdakhbeaaDoor
open Go.RowKit
set_option linter.unusedVariables false
set_option linter.unusedSimpArgs false

set_option maxRecDepth 100000 in
set_option maxHeartbeats 4000000 in
theorem Right8_calls {w : World} {F : Nat → Prop} {A : Option Addr} {c : Nat} {m : List Rng} (hr : rngR.row w F A m) (hb : m.length ≤ 1048576) :
    Calls Tryd.prog 14 #[.slice A m.length c] w fun r w' => r = .returned (.bool (rightB' m)) ∧ Pure w w' := by
  have HR := As.mk hr
  clear hr
  by_cases h4 : 4 < m.length
  · have h4' : (4 : Int) < (m.length : Int) := by omega
    have hv : rightB' m = false := by
      unfold rightB'
      rw [show decide (m.length ≤ 4) = false by simpa using h4, Bool.and_false]
    rw [hv]
    clear hv h4
    go_enter Tryd.func14, Tryd.ntmps14
    go_wp2
    go_ret
    exact ⟨rfl, Upd.refl _ _⟩
  have h4' : ¬ (4 : Int) < (m.length : Int) := by omega
  have HV := As.mk (show rightB' m = rightM 0 m by unfold rightB'; rw [show decide (m.length ≤ 4) = true by simpa using (show m.length ≤ 4 by omega), Bool.and_true])
  clear h4
  go_enter Tryd.func14, Tryd.ntmps14
  go_wp2
  go_loopg [3, 4] m.length (fun gg lv kv wr => ∃ (k : Nat) (L : Int), k + gg = m.length ∧ lv = .int .i64 L ∧ kv = .int .i64 k ∧ 0 ≤ L ∧ L ≤ 131072 ∧ As (rightM L (m.drop k) = rightM 0 m ∧ Pure w wr))
  case atStart => exact ⟨0, 0, by omega, rfl, rfl, by omega, by omega, ⟨rfl, Upd.refl _ _⟩⟩
  case round =>
    obtain ⟨k, L, hk, rfl, rfl, hL1, hL2, HC⟩ := hrel
    by_cases hlt : k < m.length
    · obtain ⟨x, hx⟩ : ∃ x, m[k]? = some x := ⟨_, List.getElem?_eq_getElem hlt⟩
      obtain ⟨heq, hp⟩ := HC.out
      obtain ⟨b, o, rfl, hFb, hbb, d0, d1, d2⟩ := rng_at (Rp.row_pure HR.out hp) hx
      obtain ⟨g1, rfl⟩ : ∃ m, gk = m + 1 := ⟨gk - 1, by omega⟩
      have hdrop : m.drop k = x :: m.drop (k + 1) := by
        obtain ⟨h1, h2⟩ := List.getElem?_eq_some_iff.1 hx
        rw [List.drop_eq_getElem_cons h1, h2]
      rw [hdrop, rightM] at heq
      have HP := As.mk hp
      have HK := As.mk hk
      have HE := As.mk heq
      have HLL := As.mk (And.intro hL1 hL2)
      clear hp hk hx HC hdrop heq
      have HBAD := As.mk (fun (hno : ¬ x.ok L) => (show rightB' m = false by
        have := HE.out
        rw [if_neg hno] at this
        rw [HV.out, ← this]))
      by_cases b1 : x.at0 < L
      · have HB := As.mk (HBAD.out (fun h => by unfold Rng.ok at h; omega))
        go_wp2
        go_ret
        exact ⟨by rw [HB.out]; rfl, HP.out.alloc _⟩
      by_cases b2 : 65536 < x.at0
      · have HB := As.mk (HBAD.out (fun h => by unfold Rng.ok at h; omega))
        go_wp2
        go_ret
        exact ⟨by rw [HB.out]; rfl, HP.out.alloc _⟩
      by_cases b3 : x.old < 0
      · have HB := As.mk (HBAD.out (fun h => by unfold Rng.ok at h; omega))
        go_wp2
        go_ret
        exact ⟨by rw [HB.out]; rfl, HP.out.alloc _⟩
      by_cases b4 : 65536 < x.old
      · have HB := As.mk (HBAD.out (fun h => by unfold Rng.ok at h; omega))
        go_wp2
        go_ret
        exact ⟨by rw [HB.out]; rfl, HP.out.alloc _⟩
      by_cases b5 : x.new < 0
      · have HB := As.mk (HBAD.out (fun h => by unfold Rng.ok at h; omega))
        go_wp2
        go_ret
        exact ⟨by rw [HB.out]; rfl, HP.out.alloc _⟩
      by_cases b6 : 65536 < x.new
      · have HB := As.mk (HBAD.out (fun h => by unfold Rng.ok at h; omega))
        go_wp2
        go_ret
        exact ⟨by rw [HB.out]; rfl, HP.out.alloc _⟩
      have hok : x.ok L := by unfold Rng.ok; omega
      have HE2 := As.mk (show rightM (x.at0 + x.old) (m.drop (k + 1)) = rightM 0 m by have := HE.out; rw [if_pos hok] at this; exact this)
      have hwr : IntKind.i64.wrap (x.at0 + x.old) = x.at0 + x.old := IntWalk.i64_in _ (by omega)
      have HOK := As.mk hok
      clear hok hL1 hL2
      go_wp2
      go_roundg g1
      case measure => omega
      case rel => exact ⟨k + 1, x.at0 + x.old, by have := HK.out; omega, by first | rfl | go_num, by go_num, by have := HOK.out.1; have := HLL.out; have := HOK.out.2.2.2.2.1; omega, by have := HOK.out.2.1; have := HOK.out.2.2.1; omega, ⟨HE2.out, HP.out.alloc _⟩⟩
    · obtain rfl : k = m.length := by omega
      obtain ⟨heq, hp⟩ := HC.out
      rw [List.drop_length, rightM] at heq
      have HV2 := As.mk (show rightB' m = true by rw [HV.out, ← heq])
      have HP := As.mk hp
      clear heq hp HC
      go_wp2
      go_ret
      exact ⟨by rw [HV2.out]; rfl, HP.out⟩
set_option maxRecDepth 100000 in
set_option maxHeartbeats 4000000 in
theorem shift8_calls {w : World} {F : Nat → Prop} {A : Option Addr} {c : Nat} {m : List Rng} {n : Nat} (hr : rngR.row w F A m) (hm : rightB' m = true) (hn : n ≤ m.length) :
    Calls Tryd.prog 15 #[.slice A m.length c, .int .i64 (n : Nat)] w fun r w' => r = .returned (.int .i64 (dsum m n)) ∧ Pure w w' := by
  have hml : m.length ≤ 4 := by
    unfold rightB' at hm
    rw [Bool.and_eq_true] at hm
    exact of_decide_eq_true hm.2
  have hrm : rightM 0 m = true := by
    unfold rightB' at hm
    rw [Bool.and_eq_true] at hm
    exact hm.1
  have hall := rightM_at m 0 hrm
  have HDL := As.mk (dsum_le hall)
  have HALL := As.mk hall
  have HR := As.mk hr
  clear hr hm hrm hall
  go_enter Tryd.func15, Tryd.ntmps15
  go_wp2
  go_loopg [5, 6] n (fun gg dv kv wr => ∃ k : Nat, k + gg = n ∧ kv = .int .i64 (k : Nat) ∧ dv = .int .i64 (dsum m k) ∧ As (Pure w wr))
  case atStart => exact ⟨0, by omega, rfl, by simp [dsum], ⟨Upd.refl _ _⟩⟩
  case round =>
    obtain ⟨k, hk, rfl, rfl, HP⟩ := hrel
    by_cases hlt : k < n
    · obtain ⟨g1, rfl⟩ : ∃ m, gk = m + 1 := ⟨gk - 1, by omega⟩
      obtain ⟨x, hx⟩ : ∃ x, m[k]? = some x := ⟨_, List.getElem?_eq_getElem (by omega)⟩
      obtain ⟨b, o, rfl, hFb, hbb, d0, d1, d2⟩ := rng_at (Rp.row_pure HR.out HP.out) hx
      have hs := dsum_succ hx
      have hl := HDL.out k (by omega)
      have ha := HALL.out x (List.mem_of_getElem? hx)
      have hkm : k < m.length := by omega
      have hw1 : IntKind.i64.wrap (dsum m k + x.new) = dsum m k + x.new := IntWalk.i64_in _ (by omega)
      have hw2 : IntKind.i64.wrap (dsum m k + x.new - x.old) = dsum m k + x.new - x.old := IntWalk.i64_in _ (by omega)
      have HS := As.mk hs
      have HK := As.mk hk
      clear hx hs hk ha hl
      generalize dsum m k = dk at *
      go_wp2
      go_quiet (fail)
      go_wp2
      go_roundg g1
      case measure => omega
      case rel => exact ⟨k + 1, by have := HK.out; omega, by go_num, by rw [HS.out]; congr 1; omega, ⟨by first | exact HP.out.drewN _ | exact HP.out.drew⟩⟩
    · obtain rfl : k = n := by omega
      go_wp2
      go_ret
      exact ⟨rfl, HP.out⟩
end Go.Proofs.YtfapglhdakhbeaaDoor
