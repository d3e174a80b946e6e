/- Partners (plain). flat.Kids. Rows: pieces, own rows of tokens. -/
import Derived.Test.YtfapglhdakhbeaaGreatDoorFlatC
import Derived.Test.YtfapglhdakhbeaaGreatDoorStack
import Derived.Test.YtfapglhdakhbeaaGreatDoorHeldZ
namespace Go.Proofs.YtfapglhdakhbeaaGreatDoor
open Go.RowKit
set_option linter.unusedVariables false
set_option linter.unusedSimpArgs false

def ptGo : Nat → Int → List Tok → Option Nat
  | _, _, [] => none
  | k, d, x :: r => if x.k = 1 then ptGo (k + 1) (d + 1) r else if x.k = 2 then (if d - 1 = 0 then some k else ptGo (k + 1) (d - 1) r) else ptGo (k + 1) d r
/-- The partner of what opens at i. -/
def partL (l : List Tok) (i : Nat) : Int := match ptGo 0 0 (l.drop i) with
  | some k => (i : Int) + k
  | none => -1
end Go.Proofs.YtfapglhdakhbeaaGreatDoor
namespace Go.Proofs.YtfapglhdakhbeaaGreatDoor
open Go.RowKit
set_option linter.unusedVariables false
set_option linter.unusedSimpArgs false

def kdGo (i : Int) : Nat → Nat → List Tok → List Int
  | _, _, [] => []
  | k, d, x :: r =>
    if x.k = 2 then (if d = 0 ∧ 0 ≤ i then [] else kdGo i (k + 1) (d - 1) r)
    else (if d = 0 ∧ 0 ≤ x.k ∧ x.k ≤ 3 then [(k : Int)] else []) ++ kdGo i (k + 1) (if x.k = 1 then d + 1 else d) r
/-- The places of what stands in i. -/
def kidsL (l : List Tok) (i : Int) : List Int := kdGo i (i + 1).toNat 0 (l.drop (i + 1).toNat)
def KdRel (w wr : World) (l : List Tok) (i : Int) (k d : Nat) (v : Value) : Prop :=
  ∃ s : List Int, intRS.own 3 wr (fun q => w.heap.size ≤ q) v s ∧ s.length ≤ k ∧ s ++ kdGo i k d (l.drop k) = kidsL l i ∧ Pure w wr
set_option maxRecDepth 100000 in
set_option maxHeartbeats 4000000 in
theorem Kids_whole {F : Nat → Prop} {A : Option Addr} {c : Nat} {l : List Tok} {w : World} (hr : tokR.row w F A l) (hb : l.length ≤ 1048576 * 4) :
    Calls Tryz.prog 81 #[.slice A l.length c, .int .i64 (-1)] w fun e w' => ∃ v, e = .returned v ∧ intRS.own 3 w' (fun k => w.heap.size ≤ k) v (kidsL l (-1)) ∧ Pure w w' := by
  have HR := As.mk hr
  have HS0 := As.mk (show KdRel w w l (-1) 0 0 (.slice none 0 0) from ⟨[], Rp.own_nil _ _ _ _, Nat.zero_le _, rfl, Upd.refl _ _⟩)
  have t2 : decide ((-1 : Int) ≥ (l.length : Int)) = false := by simp; omega
  have t3 : decide ((l.length : Int) ≤ -1) = false := by simp; omega
  clear hr
  go_enter Tryz.func81, Tryz.ntmps81
  go_wp2
  go_loopg [5, 6, 7] l.length (fun gg v dv kv wr => ∃ k d : Nat, k + gg = l.length ∧ dv = .int .i64 d ∧ kv = .int .i64 k ∧ d ≤ k ∧ As (KdRel w wr l (-1) k d v))
  case atStart => exact ⟨0, 0, by omega, rfl, rfl, by omega, HS0⟩
  case round =>
    obtain ⟨k, d, hk, rfl, rfl, hdk, HC⟩ := hrel
    by_cases hlt : k < l.length
    · obtain ⟨x, hx⟩ : ∃ x, l[k]? = some x := ⟨_, List.getElem?_eq_getElem hlt⟩
      obtain ⟨s, hown, hsl, heq, hp⟩ := HC.out
      obtain ⟨b, o, rfl, hFb, hbb, d0, d1, d2, d3⟩ := tok_at (Rp.row_pure HR.out hp) hx
      obtain ⟨g1, rfl⟩ : ∃ m, gk = m + 1 := ⟨gk - 1, by omega⟩
      rw [drop_cons hx, kdGo] at heq
      have HO := As.mk hown
      have HP := As.mk hp
      have HK := As.mk hk
      have HSL := As.mk hsl
      have hdec : decide (k < l.length) = true := by simpa using hlt
      have hwk : IntKind.i64.wrap ((k : Int) + 1) = (k : Int) + 1 := IntWalk.i64_in _ (by omega)
      clear hown hp hk hx HC hsl
      by_cases h2 : x.k = 2
      · have e2 : (x.k == 2) = true := by simp [h2]
        rw [if_pos h2] at heq
        by_cases hd : d = 0
        · subst hd
          rw [if_neg (by omega)] at heq
          have HE := As.mk heq
          have hmx : max ((0 : Int) - 1) 0 = 0 := by decide
          have hmy : max (-1 : Int) 0 = 0 := by decide
          clear heq h2
          go_wp2
          go_roundg g1
          case measure => omega
          case rel => exact ⟨k + 1, 0, by have := HK.out; omega, by first | rfl | go_num, by go_num, by omega, ⟨s, HO.out, by have := HSL.out; omega, HE.out, HP.out⟩⟩
        · obtain ⟨d', rfl⟩ : ∃ d', d = d' + 1 := ⟨d - 1, by omega⟩
          rw [if_neg (by omega)] at heq
          have HE := As.mk heq
          have e0 : (((d' + 1 : Nat) : Int) == 0) = false := by simp; omega
          have e00 : (((d' : Nat) : Int) + 1 == 0) = false := by simp; omega
          have hmx : max (d' : Int) 0 = d' := by omega
          clear heq h2 hd
          go_wp2
          go_roundg g1
          case measure => omega
          case rel => exact ⟨k + 1, d', by have := HK.out; omega, by first | rfl | go_num, by go_num, by omega, ⟨s, HO.out, by have := HSL.out; omega, HE.out, HP.out⟩⟩
      · have e2 : (x.k == 2) = false := by simp [h2]
        rw [if_neg h2] at heq
        have hw1 : IntKind.i64.wrap ((d : Int) + 1) = (d : Int) + 1 := IntWalk.i64_in _ (by omega)
        have hd1 : ∀ (d2 : Nat) (v2 : Value) (w2 : World) (s2 : List Int), s ++ ((if d = 0 ∧ 0 ≤ x.k ∧ x.k ≤ 3 then [(k : Int)] else []) ++ kdGo (-1 : Int) (k + 1) d2 (l.drop (k + 1))) = kidsL l (-1 : Int) → intRS.own 3 w2 (fun q => w.heap.size ≤ q) v2 s2 → s2 = s ++ (if d = 0 ∧ 0 ≤ x.k ∧ x.k ≤ 3 then [(k : Int)] else []) → Pure w w2 → KdRel w w2 l (-1 : Int) (k + 1) d2 v2 := fun d2 v2 w2 s2 h1 h3 h4 h5 => ⟨s2, h3, by subst h4; rw [List.length_append]; have := HSL.out; split <;> simp <;> omega, by rw [h4, List.append_assoc]; exact h1, h5⟩
        have HD1 := As.mk hd1
        have HE := As.mk heq
        clear heq hd1
        by_cases hin : d = 0 ∧ 0 ≤ x.k ∧ x.k ≤ 3
        · obtain ⟨rfl, hin1, hin2⟩ := hin
          rw [if_pos ⟨rfl, hin1, hin2⟩] at HE HD1
          have f1 : decide (x.k ≥ 0) = true := by simpa using hin1
          have f2 : decide (0 ≤ x.k) = true := by simpa using hin1
          have f3 : decide (x.k ≤ 3) = true := by simpa using hin2
          clear hin1 hin2 h2
          by_cases h1 : x.k = 1
          · have e1 : (x.k == 1) = true := by simp [h1]
            rw [if_pos h1] at HE
            clear h1
            go_wp2_with (at_builtin; refine Rp.own_append intRS HO.out (k : Int) [.int .i64 k] rfl (Fp := fun _ => False) (G := fun q => w.heap.size ≤ q) (fun _ h => h.elim) (fun _ h _ => h) (fun q hq => by have := HP.out.size; omega) rfl _ _ 86 _ 8 rfl Tryz.underlying86 int_infoS rfl (by decide) (by decide) rfl (by simp [Act.eval]) (by have := HSL.out; omega) ?_; intro v1 w1 ho1 hu1; have HO1 := As.mk ho1; have HU1 := As.mk (HP.out.trans hu1 (fun q hq h => by have := Rp.own_block_lt HO.out q h; omega)); clear ho1 hu1)
            go_roundg g1
            case measure => omega
            case rel => exact ⟨k + 1, 1, by have := HK.out; omega, by first | rfl | go_num, by go_num, by omega, ⟨HD1.out _ _ _ _ HE.out HO1.out rfl HU1.out⟩⟩
          · have e1 : (x.k == 1) = false := by simp [h1]
            rw [if_neg h1] at HE
            clear h1
            go_wp2_with (at_builtin; refine Rp.own_append intRS HO.out (k : Int) [.int .i64 k] rfl (Fp := fun _ => False) (G := fun q => w.heap.size ≤ q) (fun _ h => h.elim) (fun _ h _ => h) (fun q hq => by have := HP.out.size; omega) rfl _ _ 86 _ 8 rfl Tryz.underlying86 int_infoS rfl (by decide) (by decide) rfl (by simp [Act.eval]) (by have := HSL.out; omega) ?_; intro v1 w1 ho1 hu1; have HO1 := As.mk ho1; have HU1 := As.mk (HP.out.trans hu1 (fun q hq h => by have := Rp.own_block_lt HO.out q h; omega)); clear ho1 hu1)
            go_roundg g1
            case measure => omega
            case rel => exact ⟨k + 1, 0, by have := HK.out; omega, by first | rfl | go_num, by go_num, by omega, ⟨HD1.out _ _ _ _ HE.out HO1.out rfl HU1.out⟩⟩
        · rw [if_neg hin] at HE HD1
          have hcond : (decide ((d : Int) = 0) && (decide (0 ≤ x.k) && decide (x.k ≤ 3))) = false := by
            rw [← Bool.not_eq_true]
            simp only [Bool.and_eq_true, decide_eq_true_eq]
            omega
          have HCOND := As.mk hcond
          clear hin hcond
          cases c0 : decide ((d : Int) = 0) <;> cases c1 : decide (0 ≤ x.k) <;> cases c2 : decide (x.k ≤ 3) <;> cases c3 : decide (x.k = 1)
          all_goals first
            | (exfalso; rw [c0, c1, c2] at HCOND; exact absurd HCOND.out (by decide))
            | skip
          all_goals
            have c4 : ((d : Int) == 0) = decide ((d : Int) = 0) := rfl
            have c5 : (x.k == 1) = decide (x.k = 1) := rfl
            have c6 : decide (x.k ≥ 0) = decide (0 ≤ x.k) := rfl
            have c7 : decide (d = 0) = decide ((d : Int) = 0) := by simp
            rw [c0] at c4 c7
            rw [c3] at c5
            rw [c1] at c6
            have HC3 := As.mk c3
            clear HCOND c3
            go_wp2
            go_roundg g1
            case measure => omega
            case rel => exact ⟨k + 1, if x.k = 1 then d + 1 else d, by have := HK.out; omega, by first | (rw [if_pos (of_decide_eq_true HC3.out)]; go_num) | (rw [if_neg (of_decide_eq_false HC3.out)]; go_num) | (rw [if_neg (of_decide_eq_false HC3.out)]), by go_num, by split <;> omega, ⟨HD1.out _ _ _ _ HE.out HO.out (by simp) HP.out⟩⟩
    · obtain rfl : k = l.length := by omega
      obtain ⟨s, hown, hsl, heq, hp⟩ := HC.out
      rw [List.drop_length, kdGo, List.append_nil] at heq
      have HO := As.mk hown
      have HP := As.mk hp
      have HE := As.mk heq
      clear hown hp heq HC hsl
      go_wp2
      go_ret
      exact ⟨_, rfl, by rw [← HE.out]; exact HO.out, HP.out⟩
set_option maxRecDepth 100000 in
set_option maxHeartbeats 4000000 in
theorem Kids_in {F : Nat → Prop} {A : Option Addr} {c : Nat} {l : List Tok} {w : World} {j : Nat} {y : Tok} (hr : tokR.row w F A l) (hb : l.length ≤ 1048576 * 4) (hy : l[j]? = some y) (hy1 : y.k = 1) :
    Calls Tryz.prog 81 #[.slice A l.length c, .int .i64 j] w fun e w' => ∃ v, e = .returned v ∧ intRS.own 3 w' (fun k => w.heap.size ≤ k) v (kidsL l j) ∧ Pure w w' := by
  have HR := As.mk hr
  have hjl : j < l.length := (List.getElem?_eq_some_iff.1 hy).1
  have HS0 := As.mk (show KdRel w w l j (j + 1) 0 (.slice none 0 0) from ⟨[], Rp.own_nil _ _ _ _, Nat.zero_le _, rfl, Upd.refl _ _⟩)
  obtain ⟨by', oy', rfl, _, hby, f0, f1, f2, f3⟩ := tok_at hr hy
  rw [hy1] at f0
  have t1 : decide ((j : Int) < -1) = false := by rw [decide_eq_false_iff_not]; omega
  have t2 : decide ((j : Int) ≥ (l.length : Int)) = false := by simp; omega
  have t3 : decide ((l.length : Int) ≤ (j : Int)) = false := by simp; omega
  have t4 : decide ((j : Int) ≥ 0) = true := by simp
  have t5 : decide ((0 : Int) ≤ (j : Int)) = true := by simp
  have t6 : decide (l.length ≤ j) = false := by simp; omega
  have hwj : IntKind.i64.wrap ((j : Int) + 1) = (j : Int) + 1 := IntWalk.i64_in _ (by omega)
  clear hr hy hy1
  go_enter Tryz.func81, Tryz.ntmps81
  go_wp2
  go_loopg [5, 6, 7] (l.length - (j + 1)) (fun gg v dv kv wr => ∃ k d : Nat, k + gg = l.length ∧ dv = .int .i64 d ∧ kv = .int .i64 k ∧ d ≤ k ∧ As (KdRel w wr l j k d v))
  case atStart => exact ⟨j + 1, 0, by omega, rfl, by go_num, by omega, HS0⟩
  case round =>
    obtain ⟨k, d, hk, rfl, rfl, hdk, HC⟩ := hrel
    by_cases hlt : k < l.length
    · obtain ⟨x, hx⟩ : ∃ x, l[k]? = some x := ⟨_, List.getElem?_eq_getElem hlt⟩
      obtain ⟨s, hown, hsl, heq, hp⟩ := HC.out
      obtain ⟨b, o, hA, hFb, hbb, d0, d1, d2, d3⟩ := tok_at (Rp.row_pure HR.out hp) hx
      simp only [Option.some.injEq, Addr.mk.injEq] at hA
      obtain ⟨rfl, rfl, _⟩ := hA
      obtain ⟨g1, rfl⟩ : ∃ m, gk = m + 1 := ⟨gk - 1, by omega⟩
      rw [drop_cons hx, kdGo] at heq
      have HO := As.mk hown
      have HP := As.mk hp
      have HK := As.mk hk
      have HSL := As.mk hsl
      have hdec : decide (k < l.length) = true := by simpa using hlt
      have hwk : IntKind.i64.wrap ((k : Int) + 1) = (k : Int) + 1 := IntWalk.i64_in _ (by omega)
      clear hown hp hk hx HC hsl
      by_cases h2 : x.k = 2
      · have e2 : (x.k == 2) = true := by simp [h2]
        rw [if_pos h2] at heq
        by_cases hd : d = 0
        · subst hd
          rw [if_pos ⟨rfl, by omega⟩, List.append_nil] at heq
          have HE := As.mk heq
          clear heq h2
          go_wp2
          go_ret
          exact ⟨_, rfl, by rw [← HE.out]; exact HO.out, HP.out⟩
        · obtain ⟨d', rfl⟩ : ∃ d', d = d' + 1 := ⟨d - 1, by omega⟩
          rw [if_neg (by omega)] at heq
          have HE := As.mk heq
          have e0 : (((d' + 1 : Nat) : Int) == 0) = false := by simp; omega
          have e00 : (((d' : Nat) : Int) + 1 == 0) = false := by simp; omega
          have hmx : max (d' : Int) 0 = d' := by omega
          clear heq h2 hd
          go_wp2
          go_roundg g1
          case measure => omega
          case rel => exact ⟨k + 1, d', by have := HK.out; omega, by first | rfl | go_num, by go_num, by omega, ⟨s, HO.out, by have := HSL.out; omega, HE.out, HP.out⟩⟩
      · have e2 : (x.k == 2) = false := by simp [h2]
        rw [if_neg h2] at heq
        have hw1 : IntKind.i64.wrap ((d : Int) + 1) = (d : Int) + 1 := IntWalk.i64_in _ (by omega)
        have hd1 : ∀ (d2 : Nat) (v2 : Value) (w2 : World) (s2 : List Int), s ++ ((if d = 0 ∧ 0 ≤ x.k ∧ x.k ≤ 3 then [(k : Int)] else []) ++ kdGo (j : Int) (k + 1) d2 (l.drop (k + 1))) = kidsL l (j : Int) → intRS.own 3 w2 (fun q => w.heap.size ≤ q) v2 s2 → s2 = s ++ (if d = 0 ∧ 0 ≤ x.k ∧ x.k ≤ 3 then [(k : Int)] else []) → Pure w w2 → KdRel w w2 l (j : Int) (k + 1) d2 v2 := fun d2 v2 w2 s2 h1 h3 h4 h5 => ⟨s2, h3, by subst h4; rw [List.length_append]; have := HSL.out; split <;> simp <;> omega, by rw [h4, List.append_assoc]; exact h1, h5⟩
        have HD1 := As.mk hd1
        have HE := As.mk heq
        clear heq hd1
        by_cases hin : d = 0 ∧ 0 ≤ x.k ∧ x.k ≤ 3
        · obtain ⟨rfl, hin1, hin2⟩ := hin
          rw [if_pos ⟨rfl, hin1, hin2⟩] at HE HD1
          have f1 : decide (x.k ≥ 0) = true := by simpa using hin1
          have f2 : decide (0 ≤ x.k) = true := by simpa using hin1
          have f3 : decide (x.k ≤ 3) = true := by simpa using hin2
          clear hin1 hin2 h2
          by_cases h1 : x.k = 1
          · have e1 : (x.k == 1) = true := by simp [h1]
            rw [if_pos h1] at HE
            clear h1
            go_wp2_with (at_builtin; refine Rp.own_append intRS HO.out (k : Int) [.int .i64 k] rfl (Fp := fun _ => False) (G := fun q => w.heap.size ≤ q) (fun _ h => h.elim) (fun _ h _ => h) (fun q hq => by have := HP.out.size; omega) rfl _ _ 86 _ 8 rfl Tryz.underlying86 int_infoS rfl (by decide) (by decide) rfl (by simp [Act.eval]) (by have := HSL.out; omega) ?_; intro v1 w1 ho1 hu1; have HO1 := As.mk ho1; have HU1 := As.mk (HP.out.trans hu1 (fun q hq h => by have := Rp.own_block_lt HO.out q h; omega)); clear ho1 hu1)
            go_roundg g1
            case measure => omega
            case rel => exact ⟨k + 1, 1, by have := HK.out; omega, by first | rfl | go_num, by go_num, by omega, ⟨HD1.out _ _ _ _ HE.out HO1.out rfl HU1.out⟩⟩
          · have e1 : (x.k == 1) = false := by simp [h1]
            rw [if_neg h1] at HE
            clear h1
            go_wp2_with (at_builtin; refine Rp.own_append intRS HO.out (k : Int) [.int .i64 k] rfl (Fp := fun _ => False) (G := fun q => w.heap.size ≤ q) (fun _ h => h.elim) (fun _ h _ => h) (fun q hq => by have := HP.out.size; omega) rfl _ _ 86 _ 8 rfl Tryz.underlying86 int_infoS rfl (by decide) (by decide) rfl (by simp [Act.eval]) (by have := HSL.out; omega) ?_; intro v1 w1 ho1 hu1; have HO1 := As.mk ho1; have HU1 := As.mk (HP.out.trans hu1 (fun q hq h => by have := Rp.own_block_lt HO.out q h; omega)); clear ho1 hu1)
            go_roundg g1
            case measure => omega
            case rel => exact ⟨k + 1, 0, by have := HK.out; omega, by first | rfl | go_num, by go_num, by omega, ⟨HD1.out _ _ _ _ HE.out HO1.out rfl HU1.out⟩⟩
        · rw [if_neg hin] at HE HD1
          have hcond : (decide ((d : Int) = 0) && (decide (0 ≤ x.k) && decide (x.k ≤ 3))) = false := by
            rw [← Bool.not_eq_true]
            simp only [Bool.and_eq_true, decide_eq_true_eq]
            omega
          have HCOND := As.mk hcond
          clear hin hcond
          cases c0 : decide ((d : Int) = 0) <;> cases c1 : decide (0 ≤ x.k) <;> cases c2 : decide (x.k ≤ 3) <;> cases c3 : decide (x.k = 1)
          all_goals first
            | (exfalso; rw [c0, c1, c2] at HCOND; exact absurd HCOND.out (by decide))
            | skip
          all_goals
            have c4 : ((d : Int) == 0) = decide ((d : Int) = 0) := rfl
            have c5 : (x.k == 1) = decide (x.k = 1) := rfl
            have c6 : decide (x.k ≥ 0) = decide (0 ≤ x.k) := rfl
            have c7 : decide (d = 0) = decide ((d : Int) = 0) := by simp
            rw [c0] at c4 c7
            rw [c3] at c5
            rw [c1] at c6
            have HC3 := As.mk c3
            clear HCOND c3
            go_wp2
            go_roundg g1
            case measure => omega
            case rel => exact ⟨k + 1, if x.k = 1 then d + 1 else d, by have := HK.out; omega, by first | (rw [if_pos (of_decide_eq_true HC3.out)]; go_num) | (rw [if_neg (of_decide_eq_false HC3.out)]; go_num) | (rw [if_neg (of_decide_eq_false HC3.out)]), by go_num, by split <;> omega, ⟨HD1.out _ _ _ _ HE.out HO.out (by simp) HP.out⟩⟩
    · obtain rfl : k = l.length := by omega
      obtain ⟨s, hown, hsl, heq, hp⟩ := HC.out
      rw [List.drop_length, kdGo, List.append_nil] at heq
      have HO := As.mk hown
      have HP := As.mk hp
      have HE := As.mk heq
      clear hown hp heq HC hsl
      go_wp2
      go_ret
      exact ⟨_, rfl, by rw [← HE.out]; exact HO.out, HP.out⟩
end Go.Proofs.YtfapglhdakhbeaaGreatDoor
namespace Go.Proofs.YtfapglhdakhbeaaGreatDoor
open Go.RowKit
set_option linter.unusedVariables false
set_option linter.unusedSimpArgs false

theorem kdGo_len (i : Int) : ∀ (l : List Tok) (k d : Nat), (kdGo i k d l).length ≤ l.length := by
  intro l
  induction l with
  | nil => intro k d; simp [kdGo]
  | cons x r ih =>
    intro k d
    rw [kdGo]
    split
    · split
      · simp
      · have := ih (k + 1) (d - 1)
        simp only [List.length_cons]
        omega
    · rw [List.length_append]
      have h1 := ih (k + 1) (if x.k = 1 then d + 1 else d)
      have h2 : (if d = 0 ∧ 0 ≤ x.k ∧ x.k ≤ 3 then [(k : Int)] else []).length ≤ 1 := by split <;> simp
      simp only [List.length_cons]
      omega
theorem kidsL_len (l : List Tok) (i : Int) : (kidsL l i).length ≤ l.length := by
  unfold kidsL
  have := kdGo_len i (l.drop (i + 1).toNat) (i + 1).toNat 0
  rw [List.length_drop] at this
  omega
theorem Rp.own_empty0 {α : Type} (d : Rp α) {e : Nat} {w : World} {F : Nat → Prop} {b : Nat} (hb : w.heap[b]? = some (.cells #[] e (0, 0))) (hF : F b) : d.own e w F (.slice (some ⟨b, 0, none⟩) 0 0) [] :=
  ⟨[], ⟨by simp, .inr ⟨b, 0, #[], rfl, Nat.zero_le _, hb, Nat.le_refl _, Nat.zero_le _, by simp, by simp⟩⟩, fun k hk => by simp [Value.ownBlock] at hk; subst hk; exact hF, Reps.nil _ _⟩
theorem tok_own_to {e : Nat} {w : World} {F G : Nat → Prop} {v : Value} {xs : List Tok} (h : tokR.own e w F v xs) (hG : ∀ k, v.ownBlock = some k → G k) : tokR.own e w G v xs := by
  obtain ⟨inner, ho, hF, hr⟩ := h
  exact ⟨inner, ho, hG, hr⟩
theorem hat_ge {w : World} {v v1 : Value} {B : Nat} (h : v1.ownBlock = v.ownBlock ∨ ∃ b, v1.ownBlock = some b ∧ w.heap.size ≤ b) (h0 : ∀ q, v.ownBlock = some q → B ≤ q) (hB : B ≤ w.heap.size) : ∀ q, v1.ownBlock = some q → B ≤ q := by
  intro q hq
  rcases h with h | ⟨b, hb, hle⟩
  · rw [h] at hq
    exact h0 q hq
  · rw [hb] at hq
    injection hq with hq
    omega
theorem Rp.row_seg {α : Type} {d : Rp α} {w : World} {F : Nat → Prop} {b o : Nat} {xs : List α} (h : d.row w F (some ⟨b, o, none⟩) xs) (i n : Nat) : d.row w F (some ⟨b, o + i * d.sz, none⟩) ((xs.drop i).take n) := by
  rcases h with rfl | ⟨b', o', hA, hF, hb, hc⟩
  · exact .inl (by simp)
  · simp only [Option.some.injEq, Addr.mk.injEq] at hA
    obtain ⟨rfl, rfl, _⟩ := hA
    refine .inr ⟨b, o + i * d.sz, rfl, hF, hb, fun j x hx => ?_⟩
    rw [List.getElem?_take] at hx
    split at hx
    · rw [List.getElem?_drop] at hx
      obtain ⟨cs, h1, h2⟩ := hc (i + j) x hx
      refine ⟨cs, h1, fun t u hu => ?_⟩
      rw [Nat.add_assoc o, ← Nat.add_mul]
      exact h2 t u hu
    · cases hx
end Go.Proofs.YtfapglhdakhbeaaGreatDoor
