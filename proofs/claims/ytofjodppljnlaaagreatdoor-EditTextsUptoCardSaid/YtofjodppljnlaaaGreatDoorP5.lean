/- My own texts, packed: Spc6, Tok6, Piece, Ref4, NetD, NetW, NetP, NetF, Ref5, Signs, Ref6, NetL, NetN, NetT, NetV, NetS. -/
import Derived.Test.YtofjodppljnlaaaGreatDoorP4
namespace Go.Proofs.YtofjodppljnlaaaGreatDoor
open Go.RowKit
set_option linter.unusedVariables false
set_option linter.unusedSimpArgs false
theorem spec_some {k : Nat} {x : Spec} {e : Ex} (h : houseRules[k + 1]? = some (x, e)) : specOf houseRules ((k + 1 : Nat) : Int) = some x := by
  unfold specOf
  rw [if_neg (by omega), Int.toNat_natCast, h]
  rfl
theorem spec_low {t : Int} (h : t < 1) : specOf houseRules t = none := by
  unfold specOf
  rw [if_pos h]
theorem spec_high {t : Int} (h : 7 < t) : specOf houseRules t = none := by
  unfold specOf
  rw [if_neg (by omega), List.getElem?_eq_none (by rw [house_len]; omega)]
  rfl
set_option maxRecDepth 100000 in
set_option maxHeartbeats 4000000 in
theorem Spec6_in {w : World} {cb : Nat} (h : H6 w cb) {k : Nat} (hk : k < 7) {x : Spec} (hx : houseSpecs[k]? = some x) : Calls Tryz.prog 75 #[.pointer (some ⟨cb, 0, none⟩), .int .i64 ((k + 1 : Nat) : Int)] w fun r w' => r = .returned (.tuple #[x.val, .bool true]) ∧ Pure w w' := by
  obtain ⟨AW, cW, AL, cL, AE, cE, AG, cG, hcb, c0, c1, c2, c3, c4, c5, hw, hl, he, hg⟩ := h.cells
  obtain ⟨b, o, rfl, _, hbl, d0, d1, d2, d3, d4, d5, d6⟩ := spec_at hl hx
  rw [h6_len] at c3
  have t1 : decide (((k + 1 : Nat) : Int) < 1) = false := decide_eq_false (by omega)
  have t3 : decide ((7 : Int) < ((k + 1 : Nat) : Int)) = false := decide_eq_false (by omega)
  have t4 : IntKind.i64.wrap (((k + 1 : Nat) : Int) - 1) = (k : Int) := by rw [show ((k + 1 : Nat) : Int) - 1 = (k : Int) by omega]; exact IntWalk.i64_in _ (by omega)
  generalize ((k + 1 : Nat) : Int) = kk at *
  clear hw hl he hg h hx
  go_enter Tryz.func75, Tryz.ntmps75
  go_wp2
  exact bodyPost_ret (v := .tuple #[x.val, .bool true]) (by simp [results, Tryz.results75, go_sem, Spec.val]) rfl ⟨rfl, Upd.alloc1 _ _ _⟩
set_option maxRecDepth 100000 in
set_option maxHeartbeats 4000000 in
theorem Spec6_out {w : World} {cb : Nat} (h : H6 w cb) {t : Int} (ht : t < 1 ∨ 7 < t) : Calls Tryz.prog 75 #[.pointer (some ⟨cb, 0, none⟩), .int .i64 t] w fun r w' => r = .returned (.tuple #[zeroSpec.val, .bool false]) ∧ Pure w w' := by
  obtain ⟨AW, cW, AL, cL, AE, cE, AG, cG, hcb, c0, c1, c2, c3, c4, c5, hw, hl, he, hg⟩ := h.cells
  rw [h6_len] at c3
  by_cases h1 : t < 1
  · have t1 : decide (t < 1) = true := by simpa using h1
    clear hw hl he hg h ht h1
    go_enter Tryz.func75, Tryz.ntmps75
    go_wp2
    exact bodyPost_ret (v := .tuple #[zeroSpec.val, .bool false]) (by simp [results, Tryz.results75, go_sem, Spec.val]) rfl ⟨rfl, Upd.alloc1 _ _ _⟩
  · have t1 : decide (t < 1) = false := by simpa using h1
    have t3 : decide ((7 : Int) < t) = true := decide_eq_true (by omega)
    clear hw hl he hg h ht h1
    go_enter Tryz.func75, Tryz.ntmps75
    go_wp2
    exact bodyPost_ret (v := .tuple #[zeroSpec.val, .bool false]) (by simp [results, Tryz.results75, go_sem, Spec.val]) rfl ⟨rfl, Upd.alloc1 _ _ _⟩
theorem Spec6_calls {w : World} {cb : Nat} (h : H6 w cb) (t : Int) : Calls Tryz.prog 75 #[.pointer (some ⟨cb, 0, none⟩), .int .i64 t] w fun r w' => r = .returned (.tuple #[((specOf houseRules t).getD zeroSpec).val, .bool (specOf houseRules t).isSome]) ∧ Pure w w' := by
  by_cases h1 : t < 1
  · rw [spec_low h1]; exact Spec6_out h (.inl h1)
  · by_cases h2 : 7 < t
    · rw [spec_high h2]; exact Spec6_out h (.inr h2)
    · obtain ⟨k, rfl⟩ : ∃ k : Nat, t = ((k + 1 : Nat) : Int) := ⟨(t - 1).toNat, by omega⟩
      have hk : k < 7 := by omega
      obtain ⟨x, e, hx, _, hR⟩ := h6_at k hk
      rw [spec_some hR]
      exact Spec6_in h hk hx
set_option maxRecDepth 100000 in
set_option maxHeartbeats 4000000 in
theorem rule6_whole {w : World} {cb : Nat} {A : Option Addr} {n c : Nat} (h : H6 w cb) {t : Int} (ht : t < 0) : Calls Tryz.prog 78 #[.pointer (some ⟨cb, 0, none⟩), .slice A n c, .int .i64 t] w fun r w' => (∃ A1 c1, r = .returned (houseE0.val A1 c1) ∧ exR.row w' AnyB A1 houseE0.l) ∧ Pure w w' := by
  obtain ⟨AW, cW, AL, cL, AE, cE, AG, cG, hcb, c0, c1, c2, c3, c4, c5, hw, hl, he, hg⟩ := h.cells
  have HW := As.mk hw
  have t1 : decide (t < 0) = true := by simpa using ht
  clear hw hl he hg h ht
  generalize houseE0 = e0 at *
  obtain ⟨k0, nm, l⟩ := e0
  unfold Ex.val at *
  go_enter Tryz.func78, Tryz.ntmps78
  go_wp2
  have hu : Pure w (w.alloc (.cells #[.int .i64 k0, .string nm, .slice AW l.length cW] 92)) := Upd.alloc1 _ _ _
  exact bodyPost_ret (v := .agg #[.int .i64 k0, .string nm, .slice AW l.length cW]) (by simp [results, Tryz.results78, go_sem]) rfl ⟨⟨AW, cW, rfl, Rp.row_pure HW.out hu⟩, hu⟩
set_option maxRecDepth 100000 in
set_option maxHeartbeats 4000000 in
theorem rule6_in {w : World} {cb : Nat} {F : Nat → Prop} {A : Option Addr} {c : Nat} {l : List Tok} (h : H6 w cb) (hr : tokR.row w F A l) {i k : Nat} {y : Tok} (hy : l[i]? = some y) (hk : k < 7) (hyt : y.t = ((k + 1 : Nat) : Int)) {e : Ex} (he : houseE7[k]? = some e) : Calls Tryz.prog 78 #[.pointer (some ⟨cb, 0, none⟩), .slice A l.length c, .int .i64 i] w fun r w' => (∃ A1 c1, r = .returned (e.val A1 c1) ∧ exR.row w' AnyB A1 e.l) ∧ Pure w w' := by
  obtain ⟨AW, cW, AL, cL, AE, cE, AG, cG, hcb, c0, c1, c2, c3, c4, c5, hw, hl, hE, hg⟩ := h.cells
  obtain ⟨be, oe, A1, n1, rfl, _, hbe, e0, e1, e2, hle, hrow⟩ := ex_at6 hE he
  obtain ⟨bt, ot, rfl, _, hbt, q0, q1, q2, q3⟩ := tok_at hr hy
  rw [hyt] at q1
  rw [h6_lenE] at c4
  have hil : i < l.length := (List.getElem?_eq_some_iff.1 hy).1
  have HR := As.mk hrow
  have t1 : decide ((i : Int) < 0) = false := by simp
  have t4 : IntKind.i64.wrap (((k + 1 : Nat) : Int) - 1) = (k : Int) := by rw [show ((k + 1 : Nat) : Int) - 1 = (k : Int) by omega]; exact IntWalk.i64_in _ (by omega)
  generalize ((k + 1 : Nat) : Int) = kk at *
  have hk7 : (k : Int) < 7 := by omega
  obtain ⟨k0, nm, l0⟩ := e
  have HS : As (∀ v, Pure w v → v.cell? ⟨cb, 4, none⟩ = some (.slice (some ⟨be, oe, none⟩) 7 cE) ∧ v.cell? ⟨bt, ot + i * 4 + 1, none⟩ = some (.int .i64 kk) ∧ v.cell? ⟨be, oe + k * 3, none⟩ = some (.int .i64 k0) ∧ v.cell? ⟨be, oe + k * 3 + 1, none⟩ = some (.string nm) ∧ v.cell? ⟨be, oe + k * 3 + 2, none⟩ = some (.slice A1 l0.length n1)) := ⟨fun v hu => ⟨(hu.cell hcb (fun h => h)).trans c4, (hu.cell hbt (fun h => h)).trans q1, (hu.cell hbe (fun h => h)).trans e0, (hu.cell hbe (fun h => h)).trans e1, (hu.cell hbe (fun h => h)).trans e2⟩⟩
  unfold Ex.val at *
  clear hw hl hE hg h hr hy hyt he hrow hle c0 c1 c2 c3 c4 c5 q0 q1 q2 q3 e0 e1 e2
  go_enter Tryz.func78, Tryz.ntmps78
  go_wp2
  refine wp_region_T (P := Tryz.prog) (fun v => v.cell? ⟨cb, 4, none⟩ = some (.slice (some ⟨be, oe, none⟩) 7 cE) ∧ v.cell? ⟨bt, ot + i * 4 + 1, none⟩ = some (.int .i64 kk) ∧ v.cell? ⟨be, oe + k * 3, none⟩ = some (.int .i64 k0) ∧ v.cell? ⟨be, oe + k * 3 + 1, none⟩ = some (.string nm) ∧ v.cell? ⟨be, oe + k * 3 + 2, none⟩ = some (.slice A1 l0.length n1)) 12 (by kernel_rfl) ?_ (fun hHeld => ?_)
  · exact HS.out _ (Upd.alloc1 _ _ _).drew
  refine zT 0 ?_
  (try simp only [Act.put, sA, sB, sC])
  refine zT 1 ?_
  (try simp only [Act.put, sA, sB, sC])
  refine zT 2 ?_
  (try simp only [Act.put, sA, sB, sC])
  refine zT 3 ?_
  (try simp only [Act.put, sA, sB, sC])
  refine zT 4 ?_
  (try simp only [Act.put, sA, sB, sC])
  refine zT 5 ?_
  (try simp only [Act.put, sA, sB, sC])
  refine zT 6 ?_
  (try simp only [Act.put, sA, sB, sC])
  refine zT 7 ?_
  (try simp only [Act.put, sA, sB, sC])
  refine zT 8 ?_
  (try simp only [Act.put, sA, sB, sC])
  refine zT 9 ?_
  (try simp only [Act.put, sA, sB, sC])
  refine zT 10 ?_
  (try simp only [Act.put, sA, sB, sC])
  refine zT 11 ?_
  (try simp only [Act.put, sA, sB, sC])
  refine oT 12 (fun K hK => ?_)
  go_simp
  refine hK.out _ _ (fun h => absurd rfl h) (fun hHeld => ?_)
  clear hK K
  (try simp only [Act.put, sA, sB, sC])
  refine wpAnyT_done (by kernel_rfl) ?_ _
  go_wp2
  have hu : Pure w (w.alloc (.cells #[.int .i64 k0, .string nm, .slice A1 l0.length n1] 92)).drew := (Upd.alloc1 _ _ _).drew
  exact bodyPost_ret (v := .agg #[.int .i64 k0, .string nm, .slice A1 l0.length n1]) (by simp [results, Tryz.results78, go_sem]) rfl ⟨⟨A1, n1, rfl, Rp.row_pure HR.out hu⟩, hu⟩
theorem wd_shut {d : Int} {s : List Int} {x : Tok} (h : x.k = 2) : wdStep (d, s) x = (d - 1, s) := by unfold wdStep; simp [h]
theorem wd_open0 {s : List Int} {x : Tok} (h : x.k = 1) : wdStep (0, s) x = (1, s ++ [x.t]) := by unfold wdStep; simp [h]
theorem wd_open {d : Int} {s : List Int} {x : Tok} (h : x.k = 1) (hd : d ≠ 0) : wdStep (d, s) x = (d + 1, s) := by unfold wdStep; simp [h, hd]
theorem wd_else0 {s : List Int} {x : Tok} (h : x.k ≠ 1) (h2 : x.k ≠ 2) : wdStep (0, s) x = (0, s ++ [x.t]) := by unfold wdStep; simp [h, h2]
theorem wd_else {d : Int} {s : List Int} {x : Tok} (h : x.k ≠ 1) (h2 : x.k ≠ 2) (hd : d ≠ 0) : wdStep (d, s) x = (d, s) := by unfold wdStep; simp [h, h2, hd]
/-- What the loop of word keeps. -/
def WdRel (w wr : World) (l : List Tok) (a : Int) (b k : Nat) (d : Int) (v : Value) : Prop :=
  ∃ s : List Int, intRS.own 3 wr (fun q => w.heap.size ≤ q) v s ∧ s.length ≤ k ∧ -(k : Int) ≤ d ∧ d ≤ k ∧ ((l.take b).drop k).foldl wdStep (d, s) = wdGo l a b ∧ Pure w wr
set_option maxRecDepth 100000 in
set_option maxHeartbeats 4000000 in
theorem word6_calls {F : Nat → Prop} {A : Option Addr} {c : Nat} {l : List Tok} {w : World} {a b : Nat} (hr : tokR.row w F A l) (hb : l.length ≤ 1048576) (hbl : b ≤ l.length) (hab : a ≤ b) {i : Int} (hi : i = (a : Int) - 1) :
    Calls Tryz.prog 71 #[.slice A l.length c, .int .i64 i, .int .i64 b] w fun e w' => ∃ v, e = .returned v ∧ intRS.own 3 w' (fun k => w.heap.size ≤ k) v (wordL l i b) ∧ (wordL l i b).length ≤ b ∧ Pure w w' := by
  have HR := As.mk hr
  have hw0 : IntKind.i64.wrap (i + 1) = (a : Int) := by rw [show i + 1 = (a : Int) by omega]; exact IntWalk.i64_in _ (by omega)
  have HS0 := As.mk (show WdRel w w l i b a 0 (.slice none 0 0) from ⟨[], Rp.own_nil _ _ _ _, Nat.zero_le _, by omega, by omega, by unfold wdGo; rw [show (i + 1).toNat = a by omega, Int.toNat_natCast], Upd.refl _ _⟩)
  clear hr hi
  go_enter Tryz.func71, Tryz.ntmps71
  go_wp2
  go_loopg [7, 8, 9] (b - a) (fun gg v dv kv wr => ∃ (k : Nat) (d : Int), k + gg = b ∧ dv = .int .i64 d ∧ kv = .int .i64 k ∧ As (WdRel w wr l i b k d v))
  case atStart => exact ⟨a, 0, by omega, rfl, rfl, HS0⟩
  case round =>
    clear HS0
    obtain ⟨k, d, hk, rfl, rfl, HC⟩ := hrel
    by_cases hlt : k < b
    · obtain ⟨x, hx⟩ : ∃ x, l[k]? = some x := ⟨_, List.getElem?_eq_getElem (by omega)⟩
      obtain ⟨s, hown, hsl, hd1, hd2, heq, hp⟩ := HC.out
      obtain ⟨bt, ot, rfl, hFb, hb0, p0, p1, p2, p3⟩ := tok_at HR.out hx
      have q0 := (hp.cell hb0 (fun h => h)).trans p0
      have q1 := (hp.cell hb0 (fun h => h)).trans p1
      have hbb := Nat.lt_of_lt_of_le hb0 hp.size
      obtain ⟨g1, rfl⟩ : ∃ m, gk = m + 1 := ⟨gk - 1, by omega⟩
      have hcons : (l.take b).drop k = x :: (l.take b).drop (k + 1) := drop_cons (by rw [List.getElem?_take, if_pos hlt]; exact hx)
      rw [hcons, List.foldl_cons] at heq
      have HNB := As.mk (fun h => (absurd (Rp.own_block_lt hown bt h).1 (by omega) : False))
      have HO := As.mk hown
      have HP := As.mk hp
      have HK := As.mk hk
      have HSL := As.mk hsl
      have hkl : (k : Int) < (l.length : Int) := by omega
      have hkb : decide ((k : Int) < (b : Int)) = true := decide_eq_true (by omega)
      have hwk : IntKind.i64.wrap ((k : Int) + 1) = (k : Int) + 1 := IntWalk.i64_in _ (by omega)
      have hwd : IntKind.i64.wrap (d + 1) = d + 1 := IntWalk.i64_in _ (by omega)
      have hwe : IntKind.i64.wrap (d - 1) = d - 1 := IntWalk.i64_in _ (by omega)
      clear hown hp hk hx HC hsl hcons p0 p1 p2 p3
      by_cases h2 : x.k = 2
      · have e2 : (x.k == 2) = true := by simp [h2]
        have e3 : (x.k != 2) = false := by simp [h2]
        have e1 : (x.k == 1) = false := by simp [h2]
        rw [wd_shut h2] at heq
        by_cases hd : d = 0
        · subst hd
          rw [show (0 : Int) - 1 = -1 from rfl] at heq
          have HE := As.mk heq
          clear heq h2
          go_wp2
          go_roundg g1
          case measure => omega
          case rel => exact ⟨k + 1, -1, by have := HK.out; omega, by first | rfl | go_num, by go_num, ⟨_, HO.out, by have := HSL.out; first | omega | (rw [List.length_append, List.length_singleton]; omega), by omega, by omega, HE.out, HP.out⟩⟩
        · have e0 : (d == 0) = false := by simp [hd]
          have HE := As.mk heq
          clear heq h2 hd
          go_wp2
          go_roundg g1
          case measure => omega
          case rel => exact ⟨k + 1, d - 1, by have := HK.out; omega, by first | rfl | go_num, by go_num, ⟨_, HO.out, by have := HSL.out; first | omega | (rw [List.length_append, List.length_singleton]; omega), by omega, by omega, HE.out, HP.out⟩⟩
      · have e2 : (x.k == 2) = false := by simp [h2]
        have e3 : (x.k != 2) = true := by simp [h2]
        by_cases h1 : x.k = 1
        · have e1 : (x.k == 1) = true := by simp [h1]
          by_cases hd : d = 0
          · subst hd
            rw [wd_open0 h1] at heq
            have HE := As.mk heq
            clear heq h2 h1
            go_wp2_with (at_builtin; refine Rp.own_append intRS HO.out x.t [.int .i64 x.t] rfl (Fp := fun _ => False) (G := fun q => w.heap.size ≤ q) (fun _ h => h.elim) (fun _ h _ => h) (fun q hq => by have := HP.out.size; omega) rfl _ _ 83 _ 8 rfl Tryz.underlying83 int_infoS rfl (by decide) (by decide) rfl (by simp [Act.eval]) (by have := HSL.out; omega) ?_; intro v1 w1 ho1 hu1; have HO1 := As.mk ho1; have HU1 := As.mk (HP.out.trans hu1 (fun q hq h => by have := Rp.own_block_lt HO.out q h; omega)); have HU0 := As.mk hu1; clear ho1 hu1; apply As.out)
            refine ⟨?_⟩
            have r0 := (HU0.out.cell hbb HNB.out).trans q0
            have hbb1 := Nat.lt_of_lt_of_le hbb HU0.out.size
            clear q0 q1
            go_wp2
            go_roundg g1
            case measure => omega
            case rel => exact ⟨k + 1, 1, by have := HK.out; omega, by first | rfl | go_num, by go_num, ⟨_, HO1.out, by have := HSL.out; first | omega | (rw [List.length_append, List.length_singleton]; omega), by omega, by omega, HE.out, HU1.out⟩⟩
          · have e0 : (d == 0) = false := by simp [hd]
            rw [wd_open h1 hd] at heq
            have HE := As.mk heq
            clear heq h2 hd h1
            go_wp2
            go_roundg g1
            case measure => omega
            case rel => exact ⟨k + 1, d + 1, by have := HK.out; omega, by first | rfl | go_num, by go_num, ⟨_, HO.out, by have := HSL.out; first | omega | (rw [List.length_append, List.length_singleton]; omega), by omega, by omega, HE.out, HP.out⟩⟩
        · have e1 : (x.k == 1) = false := by simp [h1]
          by_cases hd : d = 0
          · subst hd
            rw [wd_else0 h1 h2] at heq
            have HE := As.mk heq
            clear heq h2 h1
            go_wp2_with (at_builtin; refine Rp.own_append intRS HO.out x.t [.int .i64 x.t] rfl (Fp := fun _ => False) (G := fun q => w.heap.size ≤ q) (fun _ h => h.elim) (fun _ h _ => h) (fun q hq => by have := HP.out.size; omega) rfl _ _ 83 _ 8 rfl Tryz.underlying83 int_infoS rfl (by decide) (by decide) rfl (by simp [Act.eval]) (by have := HSL.out; omega) ?_; intro v1 w1 ho1 hu1; have HO1 := As.mk ho1; have HU1 := As.mk (HP.out.trans hu1 (fun q hq h => by have := Rp.own_block_lt HO.out q h; omega)); have HU0 := As.mk hu1; clear ho1 hu1; apply As.out)
            refine ⟨?_⟩
            have r0 := (HU0.out.cell hbb HNB.out).trans q0
            have hbb1 := Nat.lt_of_lt_of_le hbb HU0.out.size
            clear q0 q1
            go_wp2
            go_roundg g1
            case measure => omega
            case rel => exact ⟨k + 1, 0, by have := HK.out; omega, by first | rfl | go_num, by go_num, ⟨_, HO1.out, by have := HSL.out; first | omega | (rw [List.length_append, List.length_singleton]; omega), by omega, by omega, HE.out, HU1.out⟩⟩
          · have e0 : (d == 0) = false := by simp [hd]
            rw [wd_else h1 h2 hd] at heq
            have HE := As.mk heq
            clear heq h2 hd h1
            go_wp2
            go_roundg g1
            case measure => omega
            case rel => exact ⟨k + 1, d, by have := HK.out; omega, by first | rfl | go_num, by go_num, ⟨_, HO.out, by have := HSL.out; first | omega | (rw [List.length_append, List.length_singleton]; omega), by omega, by omega, HE.out, HP.out⟩⟩
    · obtain rfl : k = b := by omega
      obtain ⟨s, hown, hsl, hd1, hd2, heq, hp⟩ := HC.out
      rw [List.drop_eq_nil_of_le (by rw [List.length_take]; omega), List.foldl_nil] at heq
      have HE := As.mk (show s = wordL l i k by unfold wordL; rw [← heq])
      have HO := As.mk hown
      have HP := As.mk hp
      have HSL := As.mk hsl
      have hkb : decide ((k : Int) < (k : Int)) = false := decide_eq_false (by omega)
      clear hown hp heq HC hsl hd1 hd2
      go_wp2
      go_ret
      exact ⟨_, rfl, by rw [← HE.out]; exact HO.out, by rw [← HE.out]; exact HSL.out, HP.out⟩
end Go.Proofs.YtofjodppljnlaaaGreatDoor
namespace Go.Proofs.YtofjodppljnlaaaGreatDoor
open Go.RowKit
set_option linter.unusedVariables false
set_option linter.unusedSimpArgs false
theorem two_up6 {w V : World} {X Y : Obj} (h : Pure ((w.alloc X).alloc Y) V) : V.heap[w.heap.size]? = some X ∧ V.heap[w.heap.size + 1]? = some Y ∧ Pure w V := by
  have hz : (w.alloc X).heap.size = w.heap.size + 1 := by simp
  refine ⟨?_, ?_, ((Upd.alloc1 _ _ _).alloc _).trans h (fun _ _ h => h)⟩
  · refine (h.block _ (by simp; omega) (fun h => h)).trans ((Below.heap_alloc _ _ _ (by rw [hz]; omega)).trans (heap_alloc_new w X))
  · have := heap_alloc_new (w.alloc X) Y
    rw [hz] at this
    exact (h.block _ (by simp) (fun h => h)).trans this
theorem one_up6 {w V : World} {X : Obj} (h : Pure (w.alloc X) V) : V.heap[w.heap.size]? = some X ∧ Pure w V :=
  ⟨(h.block _ (by simp) (fun h => h)).trans (heap_alloc_new w X), (Upd.alloc1 _ _ _).trans h (fun _ _ h => h)⟩
theorem cells4_6 {w : World} {k : Nat} {x0 x1 x2 x3 : Value} {t : TypeId} (h : w.heap[k]? = some (.cells #[x0, x1, x2, x3] t (0, 0))) : w.cell? ⟨k, 0, none⟩ = some x0 ∧ w.cell? ⟨k, 1, none⟩ = some x1 ∧ w.cell? ⟨k, 2, none⟩ = some x2 ∧ w.cell? ⟨k, 3, none⟩ = some x3 ∧ k < w.heap.size := by
  refine ⟨?_, ?_, ?_, ?_, (Array.getElem?_eq_some_iff.1 h).1⟩
  all_goals (unfold World.cell?; simp only [h]; rfl)
theorem cells7_6 {w : World} {k : Nat} {x0 x1 x2 x3 x4 x5 x6 : Value} {t : TypeId} (h : w.heap[k]? = some (.cells #[x0, x1, x2, x3, x4, x5, x6] t (0, 0))) :
    (w.cell? ⟨k, 0, none⟩ = some x0 ∧ w.cell? ⟨k, 1, none⟩ = some x1 ∧ w.cell? ⟨k, 2, none⟩ = some x2 ∧ w.cell? ⟨k, 3, none⟩ = some x3 ∧ w.cell? ⟨k, 4, none⟩ = some x4 ∧ w.cell? ⟨k, 5, none⟩ = some x5 ∧ w.cell? ⟨k, 6, none⟩ = some x6) ∧
    (w.frozen? ⟨k, 0, none⟩ = false ∧ w.frozen? ⟨k, 1, none⟩ = false ∧ w.frozen? ⟨k, 2, none⟩ = false ∧ w.frozen? ⟨k, 3, none⟩ = false ∧ w.frozen? ⟨k, 4, none⟩ = false ∧ w.frozen? ⟨k, 5, none⟩ = false ∧ w.frozen? ⟨k, 6, none⟩ = false) ∧ k < w.heap.size := by
  refine ⟨⟨?_, ?_, ?_, ?_, ?_, ?_, ?_⟩, ⟨?_, ?_, ?_, ?_, ?_, ?_, ?_⟩, (Array.getElem?_eq_some_iff.1 h).1⟩
  all_goals first | (unfold World.cell?; simp only [h]; rfl) | simp [World.frozen?, h]
theorem set7_upd6 (w : World) (rb : Nat) (y0 y1 y2 y3 y4 y5 y6 : Value) : Upd (fun k => k = rb) w (((((((w.setCell ⟨rb, 0, none⟩ y0).setCell ⟨rb, 1, none⟩ y1).setCell ⟨rb, 2, none⟩ y2).setCell ⟨rb, 3, none⟩ y3).setCell ⟨rb, 4, none⟩ y4).setCell ⟨rb, 5, none⟩ y5).setCell ⟨rb, 6, none⟩ y6) :=
  (Upd.refl (fun k => k = rb) w)|>.setCell (p := ⟨rb, 0, none⟩) (fun _ => rfl) _ |>.setCell (p := ⟨rb, 1, none⟩) (fun _ => rfl) _ |>.setCell (p := ⟨rb, 2, none⟩) (fun _ => rfl) _ |>.setCell (p := ⟨rb, 3, none⟩) (fun _ => rfl) _ |>.setCell (p := ⟨rb, 4, none⟩) (fun _ => rfl) _ |>.setCell (p := ⟨rb, 5, none⟩) (fun _ => rfl) _ |>.setCell (p := ⟨rb, 6, none⟩) (fun _ => rfl) _ 
theorem token6_rune_b {s : Spec} {x : Tok} (h : x.k = 0) : token6 s x = ((bits .and .i64 x.m s.marks == x.m) && ((x.n != 10) || s.lines)) := by
  unfold token6
  rw [if_pos h]
  rw [Bool.eq_iff_iff]
  simp
theorem token6_else_b {s : Spec} {x : Tok} (h : x.k ≠ 0) : token6 s x = ((specOf houseRules x.t).isSome && (decide (((specOf houseRules x.t).getD zeroSpec).least ≤ x.n) && (decide (x.n ≤ ((specOf houseRules x.t).getD zeroSpec).most) && (((specOf houseRules x.t).getD zeroSpec).leaf == (x.k == 3))))) := by
  unfold token6
  rw [if_neg h]
  cases specOf houseRules x.t with
  | none => rfl
  | some s =>
    simp only [Option.isSome_some, Option.getD_some, Bool.true_and, Bool.and_assoc]
    rfl
set_option maxRecDepth 100000 in
set_option maxHeartbeats 4000000 in
theorem token6_rune_out {w : World} {cb : Nat} {F : Nat → Prop} {A : Option Addr} {c : Nat} {l : List Tok} (hr : tokR.row w F A l) {i : Nat} {x : Tok} (hx : l[i]? = some x) (h0 : x.k = 0) {n : Int} (hn : n < 0) : Calls Tryz.prog 131 #[.pointer (some ⟨cb, 0, none⟩), .slice A l.length c, .int .i64 i, .int .i64 n] w fun r w' => r = .returned (.bool (token6 zeroSpec x)) ∧ Pure w w' := by
  rw [token6_rune_b h0]
  obtain ⟨bt, ot, rfl, _, hbt, q0, q1, q2, q3⟩ := tok_at hr hx
  have hil : (i : Int) < (l.length : Int) := by have := (List.getElem?_eq_some_iff.1 hx).1; omega
  have t1 : decide (n ≥ 0) = false := decide_eq_false (by omega)
  have t2 : decide (0 ≤ n) = false := decide_eq_false (by omega)
  have e0 : (x.k == 0) = true := by simp [h0]
  clear hr hx hn h0
  cases b1 : (bits .and .i64 x.m 0 == x.m) <;> cases b2 : (x.n != 10)
  all_goals
    go_enter Tryz.func131, Tryz.ntmps131
    go_wp2
    go_ret
    exact ⟨by simp, (Upd.alloc1 _ _ _).alloc _⟩
set_option maxRecDepth 100000 in
set_option maxHeartbeats 4000000 in
theorem token6_rune_in {w : World} {cb : Nat} {F : Nat → Prop} {A : Option Addr} {c : Nat} {l : List Tok} (h : H6 w cb) (hr : tokR.row w F A l) {i j : Nat} {x y : Tok} (hx : l[i]? = some x) (h0 : x.k = 0) (hy : l[j]? = some y) : Calls Tryz.prog 131 #[.pointer (some ⟨cb, 0, none⟩), .slice A l.length c, .int .i64 i, .int .i64 j] w fun r w' => r = .returned (.bool (token6 ((specOf houseRules y.t).getD zeroSpec) x)) ∧ Pure w w' := by
  rw [token6_rune_b h0]
  have HSP := As.mk (fun (W : World) (hu : Pure w W) => Spec6_calls (h.pure hu) y.t)
  generalize (specOf houseRules y.t).getD zeroSpec = s at *
  generalize (specOf houseRules y.t).isSome = sb at *
  obtain ⟨bt, ot, rfl, _, hbt, q0, q1, q2, q3⟩ := tok_at hr hx
  obtain ⟨bt2, ot2, hA2, _, hbt2, p0, p1, p2, p3⟩ := tok_at hr hy
  obtain ⟨rfl, rfl⟩ : bt = bt2 ∧ ot = ot2 := by simpa using hA2
  have hil : (i : Int) < (l.length : Int) := by have := (List.getElem?_eq_some_iff.1 hx).1; omega
  have hjl : (j : Int) < (l.length : Int) := by have := (List.getElem?_eq_some_iff.1 hy).1; omega
  have t1 : decide ((j : Int) ≥ 0) = true := decide_eq_true (by omega)
  have t2 : decide (0 ≤ (j : Int)) = true := decide_eq_true (by omega)
  have e0 : (x.k == 0) = true := by simp [h0]
  clear hr hx hy h0 h hA2 p0 p2 p3
  cases b1 : (bits .and .i64 x.m s.marks == x.m) <;> cases b2 : (x.n != 10)
  all_goals
    go_enter Tryz.func131, Tryz.ntmps131
    go_wp2_with (go_at_call 75; refine (HSP.out _ ((Upd.alloc1 _ _ _).alloc _)).mono ?_; rintro r w1 ⟨rfl, hu⟩; have HU1 := As.mk hu; clear hu; apply As.out)
    refine ⟨?_⟩
    obtain ⟨hb1, hb2, hu1⟩ := two_up6 HU1.out
    obtain ⟨u0, u1, u2, u3, ul⟩ := cells4_6 hb1
    obtain ⟨⟨v0, v1, v2, v3, v4, v5, v6⟩, ⟨f0, f1, f2, f3, f4, f5, f6⟩, vl⟩ := cells7_6 hb2
    have HP1 := As.mk hu1
    clear hb1 hb2 hu1 q0 q1 q2 q3 p1
    go_wp2
    go_ret
    exact ⟨by simp, HP1.out.trans (set7_upd6 _ _ _ _ _ _ _ _ _) (fun q hq h => by omega)⟩
set_option maxRecDepth 100000 in
set_option maxHeartbeats 4000000 in
theorem token6_else {w : World} {cb : Nat} {F : Nat → Prop} {A : Option Addr} {c : Nat} {l : List Tok} (h : H6 w cb) (hr : tokR.row w F A l) {i : Nat} {x : Tok} (hx : l[i]? = some x) (h0 : x.k ≠ 0) {n : Int} {s0 : Spec} : Calls Tryz.prog 131 #[.pointer (some ⟨cb, 0, none⟩), .slice A l.length c, .int .i64 i, .int .i64 n] w fun r w' => r = .returned (.bool (token6 s0 x)) ∧ Pure w w' := by
  rw [token6_else_b h0]
  have HSP := As.mk (fun (W : World) (hu : Pure w W) => Spec6_calls (h.pure hu) x.t)
  generalize (specOf houseRules x.t).getD zeroSpec = s at *
  generalize (specOf houseRules x.t).isSome = sb at *
  obtain ⟨bt, ot, rfl, _, hbt, q0, q1, q2, q3⟩ := tok_at hr hx
  have hil : (i : Int) < (l.length : Int) := by have := (List.getElem?_eq_some_iff.1 hx).1; omega
  have e0 : (x.k == 0) = false := by simp [h0]
  clear hr hx h0 h
  cases sb <;> cases b1 : decide (s.least ≤ x.n) <;> cases b2 : decide (x.n ≤ s.most)
  all_goals
    have b3 : decide (x.n ≥ s.least) = decide (s.least ≤ x.n) := rfl
    rw [b1] at b3
    go_enter Tryz.func131, Tryz.ntmps131
    go_wp2_with (go_at_call 75; refine (HSP.out _ (Upd.alloc1 _ _ _)).mono ?_; rintro r w1 ⟨rfl, hu⟩; have HU1 := As.mk hu; clear hu; apply As.out)
    refine ⟨?_⟩
    obtain ⟨hb1, hu1⟩ := one_up6 HU1.out
    obtain ⟨u0, u1, u2, u3, ul⟩ := cells4_6 hb1
    have HP1 := As.mk hu1
    clear hb1 hu1 q0 q1 q2 q3
    go_wp2
    go_ret
    exact ⟨by simp, HP1.out.alloc _⟩
end Go.Proofs.YtofjodppljnlaaaGreatDoor
namespace Go.Proofs.YtofjodppljnlaaaGreatDoor
open Go.RowKit
set_option linter.unusedVariables false
set_option linter.unusedSimpArgs false
end Go.Proofs.YtofjodppljnlaaaGreatDoor
namespace Go.Proofs.YtofjodppljnlaaaGreatDoor
open Go.RowKit
set_option linter.unusedVariables false
set_option linter.unusedSimpArgs false
set_option maxRecDepth 100000 in
set_option maxHeartbeats 4000000 in
theorem Check4_calls {F : Nat → Prop} {A : Option Addr} {c : Nat} {l : List Tok} {w : World} (hr : tokR.row w F A l) (hb : l.length ≤ 1048576 * 4) :
    Calls Tryz.prog 68 #[.slice A l.length c] w fun e w' => e = .returned (.tuple #[.int .i64 (flatCheck l).1, .int .i64 (flatCheck l).2]) ∧ Pure w w' := by
  by_cases hbig : l.length > 2048
  · have he : flatCheck l = (0, 2) := by unfold flatCheck; rw [if_pos hbig]
    rw [he]
    have hgt : ((l.length : Int) > 2048) := by omega
    clear hbig
    go_enter Tryz.func68, Tryz.ntmps68
    go_wp2
    go_ret2
    exact ⟨rfl, Upd.refl _ _⟩
  · have hE : flatCheck l = fcGo 0 0 l := by unfold flatCheck; rw [if_neg hbig]
    rw [hE]
    have hgt : ¬ ((l.length : Int) > 2048) := by omega
    have HR := As.mk hr
    clear hr hbig hE
    generalize hT : fcGo 0 0 l = T
    go_enter Tryz.func68, Tryz.ntmps68
    go_wp2
    go_loopg [4, 5] l.length (fun g d i wr => ∃ k n : Nat, k + g = l.length ∧ d = .int .i64 n ∧ i = .int .i64 k ∧ n ≤ 32 ∧ As (fcGo k n (l.drop k) = T) ∧ As (Pure w wr))
    case atStart => exact ⟨0, 0, by omega, rfl, rfl, by omega, ⟨hT⟩, ⟨Upd.refl _ _⟩⟩
    case round =>
      obtain ⟨k, n, hk, rfl, rfl, hn, HS, HP⟩ := hrel
      by_cases hlt : k < l.length
      · obtain ⟨g1, rfl⟩ : ∃ m, gk = m + 1 := ⟨gk - 1, by omega⟩
        obtain ⟨x, hx⟩ : ∃ x, l[k]? = some x := ⟨_, List.getElem?_eq_getElem hlt⟩
        obtain ⟨b, o, rfl, hF, hbl, c0, c1, c2, c3⟩ := tok_at (Rp.row_pure HR.out HP.out) hx
        have hst := HS.out
        rw [drop_cons hx] at hst
        unfold fcGo at hst
        have HK := As.mk hk
        have HFR := As.mk (fun W (b : Bool) (h : rightB x = b) => flatRight4_is h W)
        have hbb : b < wr.heap.size := hbl
        have HTC := As.mk (fun v (hu : Pure wr v) => (hu.cell (b := b) (o := o + k * 4) hbb (fun h => h)).trans c0)
        clear hx hk HS hF
        cases hrt : rightB x
        · rw [if_pos (.inl hrt)] at hst
          subst hst
          have HR1 := As.mk hrt
          clear hrt
          go_wp2_with (go_at_call 97; refine (HFR.out _ _ HR1.out).mono ?_; rintro r w1 ⟨rfl, hu⟩; have HU1 := As.mk hu; clear hu)
          go_ret2
          exact ⟨rfl, HP.out.trans HU1.out (fun _ _ h => h)⟩
        · have HR1 := As.mk hrt
          by_cases h2 : x.k = 2
          · have e1 : (x.k == 1) = false := by simp [h2]
            have e2 : (x.k == 2) = true := by simp [h2]
            by_cases h0 : n = 0
            · rw [if_pos (.inr ⟨h2, h0⟩)] at hst
              subst hst h0
              clear hrt h2
              go_wp2_with (go_at_call 97; refine (HFR.out _ _ HR1.out).mono ?_; rintro r w1 ⟨rfl, hu⟩; have d0 := HTC.out _ hu; have HU1 := As.mk hu; clear hu)
              go_ret2
              exact ⟨rfl, HP.out.trans HU1.out (fun _ _ h => h)⟩
            · rw [if_neg (by simp [hrt, h0]), if_neg (by omega), if_pos h2] at hst
              have HV := As.mk hst
              have e3 : ((n : Int) == 0) = false := by simp; omega
              have e4 : decide ((32 : Int) < (n : Int) - 1) = false := by simp; omega
              have hw1 : IntKind.i64.wrap ((n : Int) - 1) = (n : Int) - 1 := IntWalk.i64_in _ (by omega)
              have i3 : ¬ ((32 : Int) < (n : Int) - 1) := by omega
              have i5 : (n == 0) = false := by simpa using h0
              have HN := As.mk h0
              clear hst hrt h2 h0
              go_wp2_with (go_at_call 97; refine (HFR.out _ _ HR1.out).mono ?_; rintro r w1 ⟨rfl, hu⟩; have d0 := HTC.out _ hu; have HU1 := As.mk hu; clear hu)
              go_roundg g1
              case measure => omega
              case rel => exact ⟨k + 1, n - 1, by have := HK.out; omega, by congr 1; have := HN.out; omega, by go_num, by omega, HV, ⟨HP.out.trans HU1.out (fun _ _ h => h)⟩⟩
          · have e2 : (x.k == 2) = false := by simpa using h2
            rw [if_neg (by simp [hrt, h2])] at hst
            by_cases h1 : x.k = 1
            · have e1 : (x.k == 1) = true := by simpa using h1
              rw [if_pos h1] at hst
              have hw1 : IntKind.i64.wrap ((n : Int) + 1) = (n : Int) + 1 := IntWalk.i64_in _ (by omega)
              by_cases h32 : n = 32
              · rw [if_pos h32] at hst
                subst hst h32
                clear hrt h2 h1
                go_wp2_with (go_at_call 97; refine (HFR.out _ _ HR1.out).mono ?_; rintro r w1 ⟨rfl, hu⟩; have d0 := HTC.out _ hu; have HU1 := As.mk hu; clear hu)
                go_ret2
                exact ⟨rfl, HP.out.trans HU1.out (fun _ _ h => h)⟩
              · rw [if_neg h32] at hst
                have HV := As.mk hst
                have i3 : ¬ ((32 : Int) < (n : Int) + 1) := by omega
                have i4 : ((n : Int) + 1 ≤ 32) := by omega
                have HN := As.mk h32
                clear hst hrt h2 h1 h32
                go_wp2_with (go_at_call 97; refine (HFR.out _ _ HR1.out).mono ?_; rintro r w1 ⟨rfl, hu⟩; have d0 := HTC.out _ hu; have HU1 := As.mk hu; clear hu)
                go_roundg g1
                case measure => omega
                case rel => exact ⟨k + 1, n + 1, by have := HK.out; omega, by go_num, by go_num, by have := HN.out; omega, HV, ⟨HP.out.trans HU1.out (fun _ _ h => h)⟩⟩
            · have e1 : (x.k == 1) = false := by simpa using h1
              rw [if_neg h1, if_neg h2] at hst
              have HV := As.mk hst
              have i3 : ¬ ((32 : Int) < (n : Int)) := by omega
              clear hst hrt h2 h1
              go_wp2_with (go_at_call 97; refine (HFR.out _ _ HR1.out).mono ?_; rintro r w1 ⟨rfl, hu⟩; have d0 := HTC.out _ hu; have HU1 := As.mk hu; clear hu)
              go_roundg g1
              case measure => omega
              case rel => exact ⟨k + 1, n, by have := HK.out; omega, rfl, by go_num, hn, HV, ⟨HP.out.trans HU1.out (fun _ _ h => h)⟩⟩
      · obtain rfl : k = l.length := by omega
        have hst := HS.out
        rw [List.drop_length] at hst
        unfold fcGo at hst
        clear HS
        by_cases h0 : n = 0
        · subst h0
          rw [if_pos rfl] at hst
          subst hst
          go_wp2
          go_ret2
          exact ⟨rfl, HP.out⟩
        · rw [if_neg h0] at hst
          subst hst
          have i3 : (0 : Int) < (n : Int) := by omega
          have i4 : 0 < n := by omega
          go_wp2
          go_ret2
          exact ⟨rfl, HP.out⟩
set_option maxRecDepth 100000 in
set_option maxHeartbeats 4000000 in
theorem open4_calls {F : Nat → Prop} {A : Option Addr} {c : Nat} {l : List Tok} {at' : Int} {w : World} (hr : tokR.row w F A l) (hb : l.length ≤ 1048576 * 4) (hlc : l.length ≤ c) :
    Calls Tryz.prog 137 #[.slice A l.length c, .int .i64 at'] w fun e w' => ∃ v, e = .returned v ∧ intRS.own 3 w' (fun k => w.heap.size ≤ k) v (stackL l at') ∧ Pure w w' := by
  have HR := As.mk hr
  clear hr
  by_cases h1 : at' > l.length
  · have HE := As.mk (show stackL l at' = [] by unfold stackL; rw [if_pos h1])
    have h2 : decide (at' ≤ (l.length : Int)) = false := decide_eq_false (by omega)
    have h3 : decide ((0 : Int) < at') = true := decide_eq_true (by omega)
    clear h1
    by_cases hz : l.length = 0
    · have hz2 : decide ((0 : Int) < (l.length : Int)) = false := decide_eq_false (by omega)
      have hz3 : decide (0 < l.length) = false := decide_eq_false (by omega)
      go_enter Tryz.func137, Tryz.ntmps137
      go_wp2
      go_loopg [5, 6] 0 (fun g v i wr => i = .int .i64 0 ∧ v = .slice none 0 0 ∧ As (wr = w))
      case atStart => exact ⟨rfl, rfl, ⟨rfl⟩⟩
      case round =>
        obtain ⟨rfl, rfl, HW⟩ := hrel
        obtain rfl := HW.out
        go_wp2
        go_ret
        exact ⟨_, rfl, by rw [HE.out]; exact Rp.own_nil _ _ _ _, Upd.refl _ _⟩
    · have hz2 : decide ((0 : Int) < (l.length : Int)) = true := decide_eq_true (by omega)
      have hz3 : decide (0 < l.length) = true := decide_eq_true (by omega)
      go_enter Tryz.func137, Tryz.ntmps137
      go_wp2
      go_loopg [5, 6] 0 (fun g v i wr => i = .int .i64 0 ∧ v = .slice none 0 0 ∧ As (wr = w))
      case atStart => exact ⟨rfl, rfl, ⟨rfl⟩⟩
      case round =>
        obtain ⟨rfl, rfl, HW⟩ := hrel
        obtain rfl := HW.out
        go_wp2
        go_ret
        exact ⟨_, rfl, by rw [HE.out]; exact Rp.own_nil _ _ _ _, Upd.refl _ _⟩
  · have HE := As.mk (show stackL l at' = stkGo 0 (l.take (max at' 0).toNat) [] by unfold stackL; rw [if_neg h1])
    by_cases hneg : at' ≤ 0
    · have hE : stackL l at' = [] := by rw [HE.out, show (max at' 0).toNat = 0 by omega]; rfl
      have HE2 := As.mk hE
      have hmx : decide ((0 : Int) < at') = false := by simp; omega
      clear HE hE h1 hneg
      go_enter Tryz.func137, Tryz.ntmps137
      go_wp2
      go_loopg [5, 6] 0 (fun g v i wr => i = .int .i64 0 ∧ v = .slice none 0 0 ∧ As (wr = w))
      case atStart => exact ⟨rfl, rfl, ⟨rfl⟩⟩
      case round =>
        obtain ⟨rfl, rfl, HW⟩ := hrel
        obtain rfl := HW.out
        go_wp2
        go_ret
        exact ⟨_, rfl, by rw [HE2.out]; exact Rp.own_nil _ _ _ _, Upd.refl _ _⟩
    · obtain ⟨m, rfl⟩ : ∃ m : Nat, at' = m := ⟨at'.toNat, by omega⟩
      have hml : m ≤ l.length := by omega
      have hml2 : m ≤ c := by omega
      have hmx : max (m : Int) 0 = m := by omega
      rw [hmx, Int.toNat_natCast] at HE
      have hle : decide ((m : Int) ≤ (l.length : Int)) = true := by simp; omega
      have hle2 : decide (m ≤ l.length) = true := by simp; omega
      clear hneg h1 hmx
      go_enter Tryz.func137, Tryz.ntmps137
      go_wp2
      go_loopg [5, 6] m (fun g v i wr => ∃ k : Nat, k + g = m ∧ i = .int .i64 k ∧ As (StkRel w wr l m k v))
      case atStart => exact ⟨0, by omega, rfl, ⟨[], Rp.own_nil _ _ _ _, by simp, by simp, Upd.refl _ _⟩⟩
      case round =>
        obtain ⟨k, hk, rfl, HS⟩ := hrel
        by_cases hlt : k < m
        · obtain ⟨s, hown, hsl, hse, hp⟩ := HS.out
          obtain ⟨x, hx⟩ : ∃ x, l[k]? = some x := ⟨_, List.getElem?_eq_getElem (by omega)⟩
          have hx2 : (l.take m)[k]? = some x := by rw [List.getElem?_take, if_pos hlt]; exact hx
          obtain ⟨b, o, rfl, hFb, hbw, d0w, _, _, _⟩ := tok_at HR.out hx
          have HD := As.mk (fun v (hu : Pure w v) => (hu.cell (b := b) (o := o + k * 4) hbw (fun h => h)).trans d0w)
          have d0 := HD.out _ hp
          obtain ⟨g1, rfl⟩ : ∃ m, gk = m + 1 := ⟨gk - 1, by omega⟩
          have hkl : k < l.length := by omega
          have hkl2 : decide ((k : Int) < (l.length : Int)) = true := by simp; omega
          have HX := As.mk (And.intro hx2 (And.intro hsl hse))
          have HO := As.mk hown
          have HP := As.mk hp
          have HK := As.mk hk
          clear hx hx2 hse hown hp hk HS d0w hFb hbw
          by_cases h1 : x.k = 1
          · have e1 : (x.k == 1) = true := by simp [h1]
            have e2 : (x.k == 2) = false := by simp [h1]
            have HST := As.mk (show stkStep k x s = s ++ [(k : Int)] by unfold stkStep; rw [if_pos h1])
            clear h1
            go_wp2_with (at_builtin; refine Rp.own_append intRS HO.out (k : Int) [.int .i64 k] rfl (Fp := fun _ => False) (G := fun q => w.heap.size ≤ q) (fun _ h => h.elim) (fun _ h _ => h) (fun q hq => by have := HP.out.size; omega) rfl _ _ 83 _ 8 rfl Tryz.underlying83 int_infoS rfl (by decide) (by decide) rfl (by simp [Act.eval]) (by omega) ?_; intro v1 w1 ho1 hu1; have HO1 := As.mk ho1; have HU1 := As.mk (Upd.trans HP.out hu1 (fun q hq h => by have := Rp.own_block_lt HO.out q h; omega)); have d0' := HD.out _ HU1.out; clear ho1 hu1)
            go_roundg g1
            case measure => omega
            case rel => exact ⟨k + 1, by have := HK.out; omega, by go_num, ⟨StkRel.step HX.out.1 HX.out.2.1 HX.out.2.2 (by rw [HST.out]; exact HO1.out) HU1.out⟩⟩
          · have e1 : (x.k == 1) = false := by simp [h1]
            by_cases h2 : x.k = 2
            · have e2 : (x.k == 2) = true := by simp [h2]
              have HST := As.mk (show stkStep k x s = s.dropLast by unfold stkStep; rw [if_neg h1, if_pos h2])
              clear h1 h2
              by_cases hs : s = []
              · subst hs
                rcases Rp.own_nil_val HO.out with rfl | ⟨a, cc, rfl⟩
                all_goals
                  go_wp2
                  go_roundg g1
                  case measure => omega
                  case rel => exact ⟨k + 1, by have := HK.out; omega, by go_num, ⟨StkRel.step HX.out.1 HX.out.2.1 HX.out.2.2 (by rw [HST.out]; exact HO.out) HP.out⟩⟩
              · obtain ⟨a, cc, rfl⟩ := Rp.own_val HO.out hs
                obtain ⟨n, hn⟩ : ∃ n, s.length = n + 1 := ⟨s.length - 1, by have := List.length_pos_iff.2 hs; omega⟩
                have hcut := Rp.own_take HO.out n (by omega)
                have hdl : s.take n = s.dropLast := by rw [List.dropLast_eq_take, hn]; rfl
                rw [hdl, ← HST.out] at hcut
                have HC := As.mk hcut
                obtain ⟨A1, c1, hv1, hle1, _⟩ := Rp.own_slice HO.out
                simp only [Value.slice.injEq] at hv1
                have hnc : n + 1 ≤ cc := by omega
                rw [hn]
                clear hcut hdl hs hv1 hle1
                go_wp2
                go_roundg g1
                case measure => omega
                case rel => exact ⟨k + 1, by have := HK.out; omega, by go_num, ⟨StkRel.step HX.out.1 HX.out.2.1 HX.out.2.2 HC.out HP.out⟩⟩
            · have e2 : (x.k == 2) = false := by simp [h2]
              have HST := As.mk (show stkStep k x s = s by unfold stkStep; rw [if_neg h1, if_neg h2])
              clear h1 h2
              go_wp2
              go_roundg g1
              case measure => omega
              case rel => exact ⟨k + 1, by have := HK.out; omega, by go_num, ⟨StkRel.step HX.out.1 HX.out.2.1 HX.out.2.2 (by rw [HST.out]; exact HO.out) HP.out⟩⟩
        · obtain rfl : k = m := by omega
          have hkk : decide ((k : Int) < (k : Int)) = false := by simp
          go_wp2
          go_ret
          obtain ⟨s, hown, hsl, hse, hp⟩ := HS.out
          refine ⟨_, rfl, ?_, hp⟩
          rw [List.drop_eq_nil_of_le (by rw [List.length_take]; omega)] at hse
          rw [HE.out, ← hse]
          exact hown
set_option maxRecDepth 100000 in
set_option maxHeartbeats 4000000 in
theorem around4_calls {F : Nat → Prop} {A : Option Addr} {c : Nat} {l : List Tok} {at' : Int} {w : World} (hr : tokR.row w F A l) (hb : l.length ≤ 1048576 * 4) (hlc : l.length ≤ c) :
    Calls Tryz.prog 74 #[.slice A l.length c, .int .i64 at'] w fun e w' => e = .returned (.int .i64 (aroundL l at')) ∧ Pure w w' := by
  have HC := As.mk (open4_calls (at' := at') hr hb hlc)
  have HE := As.mk (show aroundL l at' = (stackL l at').getLast?.getD (-1) from rfl)
  have hsl := stackL_len l at'
  clear hr
  generalize stackL l at' = s at *
  generalize aroundL l at' = r at *
  go_enter Tryz.func74, Tryz.ntmps74
  go_wp2_with (go_at_call 137; refine HC.out.mono ?_; rintro e w1 ⟨v, rfl, ho, hu⟩; have HO := As.mk ho; have HU := As.mk hu; clear ho hu; apply As.out)
  refine ⟨?_⟩
  by_cases hs : s = []
  · subst hs
    obtain ⟨A1, c1, rfl, hle, _⟩ := Rp.own_slice HO.out
    go_wp2
    go_ret
    exact ⟨by rw [HE.out]; rfl, HU.out⟩
  · obtain ⟨a, cc, rfl⟩ := Rp.own_val HO.out hs
    obtain ⟨n, hn⟩ : ∃ n, s.length = n + 1 := ⟨s.length - 1, by have := List.length_pos_iff.2 hs; omega⟩
    obtain ⟨x, hx⟩ : ∃ x, s[n]? = some x := ⟨_, List.getElem?_eq_getElem (by omega)⟩
    obtain ⟨b, rfl, hbb, hc⟩ := int_own_at HO.out hx
    have hlast : s.getLast?.getD (-1) = x := by rw [List.getLast?_eq_getElem?, hn]; simp [hx]
    rw [hlast] at HE
    rw [hn]
    clear hs hlast hx
    go_wp2
    go_ret
    exact ⟨by rw [HE.out]; rfl, HU.out⟩
end Go.Proofs.YtofjodppljnlaaaGreatDoor
namespace Go.Proofs.YtofjodppljnlaaaGreatDoor
open Go.RowKit
set_option linter.unusedVariables false
set_option linter.unusedSimpArgs false
inductive Plus (L : List Int → Prop) : List Int → Prop
  | one {u : List Int} : L u → Plus L u
  | more {u v : List Int} : L u → Plus L v → Plus L (u ++ v)
def signL (k : Int) (L : List Int → Prop) (w : List Int) : Prop := (k ≠ 5 ∧ w = []) ∨ L w ∨ (k ≠ 6 ∧ Plus L w)
mutual
def langE (ty : ByteArray → List Int) : Ex → List Int → Prop
  | .mk k nm l, w => if k = 0 then w = [] else if k = 1 then (∃ t, w = [t] ∧ t ∈ ty nm) else if k = 2 then langSeq ty l w else if k = 3 then langAlt ty l w else signL k (langOne ty l) w
def langSeq (ty : ByteArray → List Int) : List Ex → List Int → Prop
  | [], w => w = []
  | x :: r, w => ∃ u v, w = u ++ v ∧ langE ty x u ∧ langSeq ty r v
def langAlt (ty : ByteArray → List Int) : List Ex → List Int → Prop
  | [], _ => False
  | x :: r, w => langE ty x w ∨ langAlt ty r w
def langOne (ty : ByteArray → List Int) : List Ex → List Int → Prop
  | [], _ => False
  | x :: _, w => langE ty x w
end
mutual
/-- All names have types, all signs a part. -/
def liveE (ty : ByteArray → List Int) : Ex → Prop
  | .mk k nm l => if k = 0 then True else if k = 1 then ty nm ≠ [] else if k = 2 then liveSeq ty l else if k = 3 then l ≠ [] ∧ liveSeq ty l else l ≠ [] ∧ liveSeq ty l
def liveSeq (ty : ByteArray → List Int) : List Ex → Prop
  | [] => True
  | x :: r => liveE ty x ∧ liveSeq ty r
end
mutual
theorem lang_some (ty : ByteArray → List Int) : ∀ e : Ex, liveE ty e → ∃ w, langE ty e w
  | .mk k nm l, h => by
    unfold liveE at h
    unfold langE
    by_cases h0 : k = 0
    · exact ⟨[], by rw [if_pos h0]⟩
    · rw [if_neg h0] at h
      by_cases h1 : k = 1
      · rw [if_pos h1] at h
        obtain ⟨t, ht⟩ := List.exists_mem_of_ne_nil _ h
        exact ⟨[t], by rw [if_neg h0, if_pos h1]; exact ⟨t, rfl, ht⟩⟩
      · rw [if_neg h1] at h
        by_cases h2 : k = 2
        · rw [if_pos h2] at h
          obtain ⟨w, hw⟩ := lang_seq_some ty l h
          exact ⟨w, by rw [if_neg h0, if_neg h1, if_pos h2]; exact hw⟩
        · rw [if_neg h2] at h
          by_cases h3 : k = 3
          · rw [if_pos h3] at h
            obtain ⟨w, hw, _⟩ := lang_one_some ty l h.1 h.2
            exact ⟨w, by rw [if_neg h0, if_neg h1, if_neg h2, if_pos h3]; exact hw⟩
          · rw [if_neg h3] at h
            obtain ⟨w, _, hw⟩ := lang_one_some ty l h.1 h.2
            exact ⟨w, by rw [if_neg h0, if_neg h1, if_neg h2, if_neg h3]; exact .inr (.inl hw)⟩
theorem lang_seq_some (ty : ByteArray → List Int) : ∀ l : List Ex, liveSeq ty l → ∃ w, langSeq ty l w
  | [], _ => ⟨[], by unfold langSeq; rfl⟩
  | x :: r, h => by
    unfold liveSeq at h
    obtain ⟨u, hu⟩ := lang_some ty x h.1
    obtain ⟨v, hv⟩ := lang_seq_some ty r h.2
    exact ⟨u ++ v, by unfold langSeq; exact ⟨u, v, rfl, hu, hv⟩⟩
theorem lang_one_some (ty : ByteArray → List Int) : ∀ l : List Ex, l ≠ [] → liveSeq ty l → ∃ w, langAlt ty l w ∧ langOne ty l w
  | [], h, _ => absurd rfl h
  | x :: r, _, h => by
    unfold liveSeq at h
    obtain ⟨u, hu⟩ := lang_some ty x h.1
    exact ⟨u, by unfold langAlt; exact .inl hu, by unfold langOne; exact hu⟩
end
theorem Plus.app {L : List Int → Prop} {u v : List Int} (h : Plus L u) (h' : Plus L v) : Plus L (u ++ v) := by
  induction h with
  | one h => exact .more h h'
  | more h _ ih => rw [List.append_assoc]; exact .more h ih
structure NetD where
  tos : List (List Int)
  bys : List (List Int)
  nx : List Int
def NetD.place (N : NetD) : NetD := ⟨N.tos ++ [[]], N.bys ++ [[]], N.nx ++ [-1]⟩
def NetD.free (N : NetD) (a b : Nat) : NetD := ⟨N.tos.modify a (· ++ [(b : Int)]), N.bys, N.nx⟩
def NetD.setBy (N : NetD) (c : Nat) (l : List Int) (b : Nat) : NetD := ⟨N.tos, N.bys.set c l, N.nx.set c (b : Int)⟩
mutual
def layE (ty : ByteArray → List Int) : Ex → Nat → Nat → NetD → NetD
  | .mk k nm l, a, b, N =>
    if k = 0 then N.free a b
    else if k = 1 then (N.place.free a N.nx.length).setBy N.nx.length (ty nm) b
    else if k = 2 then laySeq ty l a b N
    else if k = 3 then layAlt ty l a b N
    else
      let N2 := (layOne ty l N.nx.length (N.nx.length + 1) (N.place.place.free a N.nx.length)).free (N.nx.length + 1) b
      let N4 := if k ≠ 6 then N2.free (N.nx.length + 1) N.nx.length else N2
      if k ≠ 5 then N4.free a b else N4
def laySeq (ty : ByteArray → List Int) : List Ex → Nat → Nat → NetD → NetD
  | [], a, b, N => N.free a b
  | x :: r, a, b, N => laySeq ty r N.nx.length b (layE ty x a N.nx.length N.place)
def layAlt (ty : ByteArray → List Int) : List Ex → Nat → Nat → NetD → NetD
  | [], _, _, N => N
  | x :: r, a, b, N => layAlt ty r a b (layE ty x a b N)
def layOne (ty : ByteArray → List Int) : List Ex → Nat → Nat → NetD → NetD
  | [], _, _, N => N
  | x :: _, a, b, N => layE ty x a b N
end
/-- One way. -/
def NetD.E (N : NetD) (p : Nat) (u : List Int) (q : Nat) : Prop :=
  (u = [] ∧ (q : Int) ∈ N.tos.getD p []) ∨ (∃ t, u = [t] ∧ t ∈ N.bys.getD p [] ∧ N.nx.getD p (-1) = (q : Int))
inductive Rch (E : Nat → List Int → Nat → Prop) : Nat → List Int → Nat → Prop
  | nil (p : Nat) : Rch E p [] p
  | cons {p r q : Nat} {u v : List Int} : E p u r → Rch E r v q → Rch E p (u ++ v) q
theorem Rch.trans {E : Nat → List Int → Nat → Prop} {p r q : Nat} {u v : List Int} (h : Rch E p u r) (h' : Rch E r v q) : Rch E p (u ++ v) q := by
  induction h with
  | nil p => exact h'
  | cons he _ ih => rw [List.append_assoc]; exact .cons he (ih h')
theorem Rch.one {E : Nat → List Int → Nat → Prop} {p q : Nat} {u : List Int} (h : E p u q) : Rch E p u q := by
  have := Rch.cons h (.nil q)
  rwa [List.append_nil] at this
theorem Rch.mono {E E' : Nat → List Int → Nat → Prop} (he : ∀ p u q, E p u q → E' p u q) {p q : Nat} {u : List Int} (h : Rch E p u q) : Rch E' p u q := by
  induction h with
  | nil p => exact .nil p
  | cons h1 _ ih => exact .cons (he _ _ _ h1) ih
/-- A net that is right. -/
structure NetD.Ok (N : NetD) : Prop where
  tl : N.tos.length = N.nx.length
  bl : N.bys.length = N.nx.length
  tgt : ∀ p, ∀ q ∈ N.tos.getD p [], 0 ≤ q ∧ q < N.nx.length
  nx : ∀ p, N.bys.getD p [] ≠ [] → 0 ≤ N.nx.getD p (-1) ∧ N.nx.getD p (-1) < N.nx.length
theorem getD_mod (fs : List (List Int)) (n i : Nat) (f : List Int → List Int) : (fs.modify n f).getD i [] = if n = i ∧ i < fs.length then f (fs.getD i []) else fs.getD i [] := by
  simp only [List.getD, List.getElem?_modify]
  cases hx : fs[i]? with
  | none =>
    have := List.getElem?_eq_none_iff.1 hx
    rw [if_neg (by omega)]
    split <;> simp
  | some y =>
    have hlt := (List.getElem?_eq_some_iff.1 hx).1
    by_cases h : n = i
    · simp [h, hlt]
    · simp [h]
theorem getD_app1 {α : Type} (l : List α) (x d : α) (i : Nat) : (l ++ [x]).getD i d = if i = l.length then x else l.getD i d := by
  simp only [List.getD]
  rcases Nat.lt_trichotomy i l.length with h | h | h
  · rw [List.getElem?_append_left h, if_neg (by omega)]
  · subst h; simp
  · rw [List.getElem?_append_right (by omega), if_neg (by omega), List.getElem?_eq_none (by simp; omega), List.getElem?_eq_none (by omega)]
theorem getD_set1 {α : Type} (l : List α) (n i : Nat) (x d : α) : (l.set n x).getD i d = if n = i ∧ i < l.length then x else l.getD i d := by
  simp only [List.getD, List.getElem?_set]
  by_cases h : n = i
  · subst h
    by_cases h2 : n < l.length
    · simp [h2]
    · simp [h2]
  · simp [h]
theorem NetD.place_E (N : NetD) (h : N.Ok) {p : Nat} {u : List Int} {q : Nat} : N.place.E p u q ↔ N.E p u q := by
  unfold NetD.E NetD.place
  simp only [getD_app1]
  have e1 : N.tos.length = N.nx.length := h.tl
  have e2 : N.bys.length = N.nx.length := h.bl
  by_cases hp : p = N.nx.length
  · have g1 : N.tos.getD p [] = [] := by simp [List.getD, List.getElem?_eq_none (show N.tos.length ≤ p by omega)]
    have g2 : N.bys.getD p [] = [] := by simp [List.getD, List.getElem?_eq_none (show N.bys.length ≤ p by omega)]
    rw [e1, e2, if_pos hp, if_pos hp, g1, g2]
    simp
  · rw [e1, e2, if_neg hp, if_neg hp, if_neg hp]
theorem NetD.free_E (N : NetD) (h : N.Ok) {a b : Nat} (ha : a < N.nx.length) {p : Nat} {u : List Int} {q : Nat} : (N.free a b).E p u q ↔ N.E p u q ∨ (p = a ∧ u = [] ∧ q = b) := by
  unfold NetD.E NetD.free
  simp only [getD_mod]
  by_cases hp : a = p ∧ p < N.tos.length
  · rw [if_pos hp, List.mem_append, List.mem_singleton]
    constructor
    · rintro (⟨h1, h2 | h2⟩ | h1)
      · exact .inl (.inl ⟨h1, h2⟩)
      · exact .inr ⟨hp.1.symm, h1, by omega⟩
      · exact .inl (.inr h1)
    · rintro ((⟨h1, h2⟩ | h1) | ⟨h1, h2, h3⟩)
      · exact .inl ⟨h1, .inl h2⟩
      · exact .inr h1
      · exact .inl ⟨h2, .inr (by omega)⟩
  · rw [if_neg hp]
    constructor
    · exact .inl
    · rintro (h1 | ⟨h1, _⟩)
      · exact h1
      · exact absurd ⟨h1.symm, by rw [h.tl]; omega⟩ hp
theorem NetD.setBy_E (N : NetD) (h : N.Ok) {c b : Nat} (hc : c < N.nx.length) (h0 : N.bys.getD c [] = []) (l : List Int) {p : Nat} {u : List Int} {q : Nat} : (N.setBy c l b).E p u q ↔ N.E p u q ∨ (p = c ∧ q = b ∧ ∃ t, u = [t] ∧ t ∈ l) := by
  unfold NetD.E NetD.setBy
  simp only [getD_set1]
  rw [h.bl]
  by_cases hp : c = p ∧ p < N.nx.length
  · rw [if_pos hp, if_pos hp]
    obtain ⟨rfl, _⟩ := hp
    rw [h0]
    constructor
    · rintro (h1 | ⟨t, h1, h2, h3⟩)
      · exact .inl (.inl h1)
      · exact .inr ⟨rfl, by omega, t, h1, h2⟩
    · rintro ((h1 | ⟨t, h1, h2, h3⟩) | ⟨_, h1, t, h2, h3⟩)
      · exact .inl h1
      · cases h2
      · exact .inr ⟨t, h2, h3, by omega⟩
  · rw [if_neg hp, if_neg hp]
    constructor
    · exact .inl
    · rintro (h1 | ⟨h1, _⟩)
      · exact h1
      · exact absurd ⟨h1.symm, by omega⟩ hp
theorem NetD.place_ok {N : NetD} (h : N.Ok) : N.place.Ok := by
  have e1 : N.tos.length = N.nx.length := h.tl
  have e2 : N.bys.length = N.nx.length := h.bl
  refine ⟨by simp [NetD.place, e1], by simp [NetD.place, e2], fun p q hq => ?_, fun p hp => ?_⟩
  · simp only [NetD.place, getD_app1] at hq ⊢
    split at hq
    · cases hq
    · have := h.tgt p q hq
      simp
      omega
  · simp only [NetD.place, getD_app1] at hp ⊢
    by_cases hpl : p = N.nx.length
    · rw [if_pos (by omega)] at hp
      exact absurd rfl hp
    · rw [if_neg (by omega)] at hp
      have := h.nx p hp
      rw [if_neg hpl, List.length_append, List.length_singleton]
      omega
theorem NetD.free_ok {N : NetD} (h : N.Ok) {a b : Nat} (hb : b < N.nx.length) : (N.free a b).Ok := by
  refine ⟨by simp [NetD.free, h.tl], h.bl, fun p q hq => ?_, h.nx⟩
  simp only [NetD.free, getD_mod] at hq ⊢
  split at hq
  · rcases List.mem_append.1 hq with hq | hq
    · exact h.tgt p q hq
    · rw [List.mem_singleton.1 hq]
      omega
  · exact h.tgt p q hq
theorem NetD.setBy_ok {N : NetD} (h : N.Ok) {c b : Nat} (l : List Int) (hb : b < N.nx.length) : (N.setBy c l b).Ok := by
  refine ⟨by simp [NetD.setBy, h.tl], by simp [NetD.setBy, h.bl], fun p q hq => ?_, fun p hp => ?_⟩
  · simp only [NetD.setBy, List.length_set]
    exact h.tgt p q hq
  · simp only [NetD.setBy, getD_set1, List.length_set, h.bl] at hp ⊢
    split
    · omega
    · rename_i hn
      rw [if_neg hn] at hp
      exact h.nx p hp
theorem NetD.place_len (N : NetD) : N.place.nx.length = N.nx.length + 1 := by simp [NetD.place]
theorem NetD.free_len (N : NetD) (a b : Nat) : (N.free a b).nx.length = N.nx.length := rfl
theorem NetD.setBy_len (N : NetD) (c : Nat) (l : List Int) (b : Nat) : (N.setBy c l b).nx.length = N.nx.length := by simp [NetD.setBy]
/-- What laying a tree between two places does: it stays right; the tree's words lead from the one to the other; whoever ascribes words to the elder places so that all fits may do so with the new ones, too; from each new place a word leads to the end. -/
structure Laid (N N' : NetD) (a b : Nat) (L : List Int → Prop) (live : Prop) : Prop where
  ok : N'.Ok
  le : N.nx.length ≤ N'.nx.length
  sub : ∀ p u q, N.E p u q → N'.E p u q
  word : ∀ u, L u → Rch N'.E a u b
  sound : ∀ K : Nat → List Int → Prop, (∀ p u q v, N.E p u q → K q v → K p (u ++ v)) → (∀ u v, L u → K b v → K a (u ++ v)) →
    ∃ K' : Nat → List Int → Prop, (∀ p, p < N.nx.length → K' p = K p) ∧ ∀ p u q v, N'.E p u q → K' q v → K' p (u ++ v)
  trim : live → ∀ p, N.nx.length ≤ p → p < N'.nx.length → ∃ v, Rch N'.E p v b
  none : ∀ p, p < N.nx.length → N'.bys.getD p [] = N.bys.getD p []
theorem Ok.lt {N : NetD} (h : N.Ok) {p : Nat} {u : List Int} {q : Nat} (he : N.E p u q) : p < N.nx.length ∧ q < N.nx.length := by
  rcases he with ⟨_, h1⟩ | ⟨t, _, h1, h2⟩
  · have := h.tgt p _ h1
    refine ⟨?_, by omega⟩
    rcases Nat.lt_or_ge p N.nx.length with h3 | h3
    · exact h3
    · have : N.tos.getD p [] = [] := by simp [List.getD, List.getElem?_eq_none (show N.tos.length ≤ p by have := h.tl; omega)]
      rw [this] at h1
      cases h1
  · have hne : N.bys.getD p [] ≠ [] := fun h => by rw [h] at h1; cases h1
    have := h.nx p hne
    refine ⟨?_, by omega⟩
    rcases Nat.lt_or_ge p N.nx.length with h3 | h3
    · exact h3
    · have : N.bys.getD p [] = [] := by simp [List.getD, List.getElem?_eq_none (show N.bys.length ≤ p by have := h.bl; omega)]
      exact absurd this hne
/-- A way more. -/
theorem laid_free {N : NetD} (h : N.Ok) {a b : Nat} (ha : a < N.nx.length) (hb : b < N.nx.length) : Laid N (N.free a b) a b (fun w => w = []) True := by
  refine ⟨NetD.free_ok h hb, Nat.le_refl _, fun p u q he => (NetD.free_E N h ha).2 (.inl he), fun u hu => ?_, fun K h1 h2 => ⟨K, fun _ _ => rfl, fun p u q v he hv => ?_⟩, fun _ p h1 h2 => ?_, fun _ _ => rfl⟩
  · subst hu
    exact .one ((NetD.free_E N h ha).2 (.inr ⟨rfl, rfl, rfl⟩))
  · rcases (NetD.free_E N h ha).1 he with he | ⟨rfl, rfl, rfl⟩
    · exact h1 p u q v he hv
    · exact h2 [] v rfl hv
  · rw [NetD.free_len] at h2
    omega
/-- One behind the other, at the same two places: what may go from a to b. -/
theorem Laid.both {N N1 N2 : NetD} {a b : Nat} {L M : List Int → Prop} {l m : Prop} (h1 : Laid N N1 a b L l) (h2 : Laid N1 N2 a b M m) (ha : a < N.nx.length) (hb : b < N.nx.length) : Laid N N2 a b (fun w => L w ∨ M w) (l ∧ m) := by
  refine ⟨h2.ok, Nat.le_trans h1.le h2.le, fun p u q he => h2.sub _ _ _ (h1.sub _ _ _ he), fun u hu => ?_, fun K hK hL => ?_, fun hl p hp hp2 => ?_, fun p hp => (h2.none p (Nat.lt_of_lt_of_le hp h1.le)).trans (h1.none p hp)⟩
  · rcases hu with hu | hu
    · exact (h1.word u hu).mono h2.sub
    · exact h2.word u hu
  · obtain ⟨K1, e1, s1⟩ := h1.sound K hK (fun u v hu hv => hL u v (.inl hu) hv)
    obtain ⟨K2, e2, s2⟩ := h2.sound K1 s1 (fun u v hu hv => by rw [e1 a ha]; rw [e1 b hb] at hv; exact hL u v (.inr hu) hv)
    exact ⟨K2, fun p hp => (e2 p (Nat.lt_of_lt_of_le hp h1.le)).trans (e1 p hp), s2⟩
  · rcases Nat.lt_or_ge p N1.nx.length with h | h
    · obtain ⟨v, hv⟩ := h1.trim hl.1 p hp h
      exact ⟨v, hv.mono h2.sub⟩
    · exact h2.trim hl.2 p h hp2
theorem Laid.imp {N N' : NetD} {a b : Nat} {L M : List Int → Prop} {l m : Prop} (h : Laid N N' a b L l) (hL : ∀ w, L w ↔ M w) (hm : m → l) : Laid N N' a b M m :=
  ⟨h.ok, h.le, h.sub, fun u hu => h.word u ((hL u).2 hu), fun K hK hM => h.sound K hK (fun u v hu hv => hM u v ((hL u).1 hu) hv), fun hl => h.trim (hm hl), h.none⟩
/-- Over a new place. -/
theorem Laid.over {N N1 N2 : NetD} {a b : Nat} {L M : List Int → Prop} {l m : Prop} (h0 : N.Ok) (h1 : Laid N.place N1 a N.nx.length L l) (h2 : Laid N1 N2 N.nx.length b M m) (ha : a < N.nx.length) (hb : b < N.nx.length) (hm : m → ∃ v, M v) :
    Laid N N2 a b (fun w => ∃ u v, w = u ++ v ∧ L u ∧ M v) (l ∧ m) := by
  have hle1 : N.nx.length + 1 ≤ N1.nx.length := by have := h1.le; rwa [NetD.place_len] at this
  have key : m → ∃ v, Rch N2.E N.nx.length v b := fun hl => by
    obtain ⟨v, hv⟩ := hm hl
    exact ⟨v, h2.word v hv⟩
  refine ⟨h2.ok, by have := h2.le; omega, fun p u q he => h2.sub _ _ _ (h1.sub _ _ _ ((NetD.place_E N h0).2 he)), ?_, fun K hK hL => ?_, fun hl p hp hp2 => ?_, fun p hp => ?_⟩
  · rintro w ⟨u, v, rfl, hu, hv⟩
    exact ((h1.word u hu).mono h2.sub).trans (h2.word v hv)
  · have hc : ∀ p, p < N.nx.length → (fun w => if p = N.nx.length then ∃ u v, w = u ++ v ∧ M u ∧ K b v else K p w) = K p := fun p hp => by
      funext w
      simp only [if_neg (show p ≠ N.nx.length by omega)]
    obtain ⟨K1, e1, s1⟩ := h1.sound (fun p w => if p = N.nx.length then ∃ u v, w = u ++ v ∧ M u ∧ K b v else K p w) (fun p u q v he hv => by
        have he' := (NetD.place_E N h0).1 he
        have hlt := Ok.lt h0 he'
        simp only [if_neg (show p ≠ N.nx.length by omega)]
        simp only [if_neg (show q ≠ N.nx.length by omega)] at hv
        exact hK p u q v he' hv) (fun u v hu hv => by
        simp only [if_true] at hv
        obtain ⟨x, y, rfl, hx, hy⟩ := hv
        simp only [if_neg (show a ≠ N.nx.length by omega)]
        rw [← List.append_assoc]
        exact hL (u ++ x) y ⟨u, x, rfl, hu, hx⟩ hy)
    have e1b : K1 b = K b := by rw [e1 b (by rw [NetD.place_len]; omega), hc b hb]
    obtain ⟨K2, e2, s2⟩ := h2.sound K1 s1 (fun u v hu hv => by
        rw [e1 _ (by rw [NetD.place_len]; omega)]
        simp only [if_true]
        rw [e1b] at hv
        exact ⟨u, v, rfl, hu, hv⟩)
    exact ⟨K2, fun p hp => by rw [e2 p (by omega), e1 p (by rw [NetD.place_len]; omega), hc p hp], s2⟩
  · by_cases hc : p = N.nx.length
    · rw [hc]
      exact key hl.2
    · rcases Nat.lt_or_ge p N1.nx.length with h | h
      · obtain ⟨v, hv⟩ := h1.trim hl.1 p (by rw [NetD.place_len]; omega) h
        obtain ⟨v', hv'⟩ := key hl.2
        exact ⟨v ++ v', (hv.mono h2.sub).trans hv'⟩
      · exact h2.trim hl.2 p h hp2
  · rw [h2.none p (by omega), h1.none p (by rw [NetD.place_len]; omega)]
    simp only [NetD.place, getD_app1]
    rw [if_neg (by have := h0.bl; omega)]
mutual
theorem laid_E (ty : ByteArray → List Int) : ∀ (e : Ex) (N : NetD) (a b : Nat), N.Ok → a < N.nx.length → b < N.nx.length → Laid N (layE ty e a b N) a b (langE ty e) (liveE ty e)
  | .mk k nm l, N, a, b, h, ha, hb => by
    by_cases h0 : k = 0
    · have e1 : layE ty (.mk k nm l) a b N = N.free a b := by rw [layE, if_pos h0]
      rw [e1]
      exact (laid_free h ha hb).imp (fun w => by rw [langE, if_pos h0]) (fun _ => trivial)
    by_cases h1 : k = 1
    · have e1 : layE ty (.mk k nm l) a b N = (N.place.free a N.nx.length).setBy N.nx.length (ty nm) b := by rw [layE, if_neg h0, if_pos h1]
      rw [e1]
      have o1 := NetD.place_ok h
      have o2 : (N.place.free a N.nx.length).Ok := NetD.free_ok o1 (by rw [NetD.place_len]; omega)
      have hl2 : (N.place.free a N.nx.length).nx.length = N.nx.length + 1 := by rw [NetD.free_len, NetD.place_len]
      have hn : (N.place.free a N.nx.length).bys.getD N.nx.length [] = [] := by
        simp only [NetD.free, NetD.place, getD_app1]
        rw [if_pos h.bl.symm]
      have hE : ∀ {p u q}, ((N.place.free a N.nx.length).setBy N.nx.length (ty nm) b).E p u q ↔ (N.E p u q ∨ (p = a ∧ u = [] ∧ q = N.nx.length)) ∨ (p = N.nx.length ∧ q = b ∧ ∃ t, u = [t] ∧ t ∈ ty nm) := by
        intro p u q
        rw [NetD.setBy_E _ o2 (by omega) hn, NetD.free_E _ o1 (by rw [NetD.place_len]; omega), NetD.place_E N h]
      refine ⟨NetD.setBy_ok o2 _ (by omega), by rw [NetD.setBy_len]; omega, fun p u q he => hE.2 (.inl (.inl he)), fun u hu => ?_, fun K hK hL => ?_, fun hl p hp hp2 => ?_, fun p hp => ?_⟩
      · rw [langE, if_neg h0, if_pos h1] at hu
        obtain ⟨t, rfl, ht⟩ := hu
        exact .cons (u := []) (hE.2 (.inl (.inr ⟨rfl, rfl, rfl⟩))) (.one (hE.2 (.inr ⟨rfl, rfl, t, rfl, ht⟩)))
      · refine ⟨fun p w => if p = N.nx.length then ∃ t v, w = t :: v ∧ t ∈ ty nm ∧ K b v else K p w, fun p hp => ?_, fun p u q v he hv => ?_⟩
        · funext w
          show (if p = N.nx.length then _ else _) = _
          rw [if_neg (by omega)]
        · show (if p = N.nx.length then ∃ t v', u ++ v = t :: v' ∧ t ∈ ty nm ∧ K b v' else K p (u ++ v))
          replace hv : (if q = N.nx.length then ∃ t v', v = t :: v' ∧ t ∈ ty nm ∧ K b v' else K q v) := hv
          rcases hE.1 he with (he | ⟨rfl, rfl, rfl⟩) | ⟨rfl, rfl, t, rfl, ht⟩
          · have hlt := Ok.lt h he
            rw [if_neg (by omega)] at hv ⊢
            exact hK p u q v he hv
          · rw [if_pos rfl] at hv
            rw [if_neg (by omega)]
            obtain ⟨t, v', rfl, ht, hv⟩ := hv
            exact hL [t] v' (by rw [langE, if_neg h0, if_pos h1]; exact ⟨t, rfl, ht⟩) hv
          · rw [if_neg (by omega)] at hv
            rw [if_pos rfl]
            exact ⟨t, v, rfl, ht, hv⟩
      · rw [NetD.setBy_len] at hp2
        rw [liveE, if_neg h0, if_pos h1] at hl
        obtain ⟨t, ht⟩ := List.exists_mem_of_ne_nil _ hl
        have : p = N.nx.length := by omega
        subst this
        exact ⟨[t], .one (hE.2 (.inr ⟨rfl, rfl, t, rfl, ht⟩))⟩
      · simp only [NetD.setBy, NetD.free, NetD.place, getD_set1, getD_app1]
        rw [if_neg (by omega), if_neg (by have := h.bl; omega)]
    by_cases h2 : k = 2
    · have e1 : layE ty (.mk k nm l) a b N = laySeq ty l a b N := by rw [layE, if_neg h0, if_neg h1, if_pos h2]
      rw [e1]
      exact (laid_seq ty l N a b h ha hb).imp (fun w => by rw [langE, if_neg h0, if_neg h1, if_pos h2]) (fun hl => by rw [liveE, if_neg h0, if_neg h1, if_pos h2] at hl; exact hl)
    by_cases h3 : k = 3
    · have e1 : layE ty (.mk k nm l) a b N = layAlt ty l a b N := by rw [layE, if_neg h0, if_neg h1, if_neg h2, if_pos h3]
      rw [e1]
      exact (laid_alt ty l N a b h ha hb).imp (fun w => by rw [langE, if_neg h0, if_neg h1, if_neg h2, if_pos h3]) (fun hl => by rw [liveE, if_neg h0, if_neg h1, if_neg h2, if_pos h3] at hl; exact hl.2)
    -- a sign
    have o1 := NetD.place_ok h
    have o2 := NetD.place_ok o1
    have o3 : (N.place.place.free a N.nx.length).Ok := NetD.free_ok o2 (by rw [NetD.place_len, NetD.place_len]; omega)
    have l3 : (N.place.place.free a N.nx.length).nx.length = N.nx.length + 2 := by rw [NetD.free_len, NetD.place_len, NetD.place_len]
    have hE3 : ∀ {p u q}, (N.place.place.free a N.nx.length).E p u q ↔ N.E p u q ∨ (p = a ∧ u = [] ∧ q = N.nx.length) := by
      intro p u q
      rw [NetD.free_E _ o2 (by rw [NetD.place_len, NetD.place_len]; omega), NetD.place_E _ o1, NetD.place_E N h]
    have hO := laid_one ty l (N.place.place.free a N.nx.length) N.nx.length (N.nx.length + 1) o3 (by omega) (by omega)
    generalize hN2 : layOne ty l N.nx.length (N.nx.length + 1) (N.place.place.free a N.nx.length) = N2 at hO
    have l2 := hO.le
    rw [l3] at l2
    have e1 : layE ty (.mk k nm l) a b N = (let N3 := N2.free (N.nx.length + 1) b
      let N4 := if k ≠ 6 then N3.free (N.nx.length + 1) N.nx.length else N3
      if k ≠ 5 then N4.free a b else N4) := by rw [layE, if_neg h0, if_neg h1, if_neg h2, if_neg h3, hN2]
    generalize layE ty (.mk k nm l) a b N = N9 at e1 ⊢
    have p3 : (N2.free (N.nx.length + 1) b).Ok := NetD.free_ok hO.ok (by omega)
    have hE9 : (N9.Ok ∧ N9.nx.length = N2.nx.length ∧ N9.bys = N2.bys) ∧ ∀ {p u q}, N9.E p u q ↔ N2.E p u q ∨ (p = N.nx.length + 1 ∧ u = [] ∧ q = b) ∨ (k ≠ 6 ∧ p = N.nx.length + 1 ∧ u = [] ∧ q = N.nx.length) ∨ (k ≠ 5 ∧ p = a ∧ u = [] ∧ q = b) := by
      by_cases k6 : k = 6
      · have k5 : k ≠ 5 := by omega
        simp only [k6, ne_eq, not_true_eq_false, if_false] at e1
        rw [if_pos (by decide)] at e1
        subst e1
        refine ⟨⟨NetD.free_ok p3 (by rw [NetD.free_len]; omega), rfl, rfl⟩, ?_⟩
        intro p u q
        rw [NetD.free_E _ p3 (by rw [NetD.free_len]; omega), NetD.free_E _ hO.ok (by omega)]
        simp only [k6, ne_eq, not_true_eq_false, false_and, false_or]
        rw [or_assoc]
        simp
      · simp only [if_pos (show k ≠ 6 from k6)] at e1
        have p4 : ((N2.free (N.nx.length + 1) b).free (N.nx.length + 1) N.nx.length).Ok := NetD.free_ok p3 (by rw [NetD.free_len]; omega)
        by_cases k5 : k = 5
        · rw [if_neg (by omega)] at e1
          subst e1
          refine ⟨⟨p4, rfl, rfl⟩, ?_⟩
          intro p u q
          rw [NetD.free_E _ p3 (by rw [NetD.free_len]; omega), NetD.free_E _ hO.ok (by omega)]
          simp only [k5, ne_eq, not_true_eq_false, false_and, or_false]
          rw [or_assoc]
          simp
        · rw [if_pos k5] at e1
          subst e1
          refine ⟨⟨NetD.free_ok p4 (by rw [NetD.free_len, NetD.free_len]; omega), rfl, rfl⟩, ?_⟩
          intro p u q
          rw [NetD.free_E _ p4 (by rw [NetD.free_len, NetD.free_len]; omega), NetD.free_E _ p3 (by rw [NetD.free_len]; omega), NetD.free_E _ hO.ok (by omega)]
          simp only [ne_eq, k6, k5, not_false_eq_true, true_and]
          rw [or_assoc, or_assoc]
    obtain ⟨⟨ok9, len9, by9⟩, hE9⟩ := hE9
    clear e1
    have sub2 : ∀ p u q, N2.E p u q → N9.E p u q := fun p u q he => hE9.2 (.inl he)
    have hac : N9.E a [] N.nx.length := sub2 _ _ _ (hO.sub _ _ _ (hE3.2 (.inr ⟨rfl, rfl, rfl⟩)))
    have hdb : N9.E (N.nx.length + 1) [] b := hE9.2 (.inr (.inl ⟨rfl, rfl, rfl⟩))
    have once : ∀ u, langOne ty l u → Rch N9.E N.nx.length u (N.nx.length + 1) := fun u hu => (hO.word u hu).mono sub2
    have plus : k ≠ 6 → ∀ u, Plus (langOne ty l) u → Rch N9.E N.nx.length u (N.nx.length + 1) := by
      intro k6 u hu
      induction hu with
      | one h => exact once _ h
      | more h1 _ ih =>
        have hdc : N9.E (N.nx.length + 1) [] N.nx.length := hE9.2 (.inr (.inr (.inl ⟨k6, rfl, rfl, rfl⟩)))
        exact (once _ h1).trans (Rch.cons (u := []) hdc ih)
    have hlang : ∀ w, langE ty (.mk k nm l) w ↔ signL k (langOne ty l) w := fun w => by rw [langE, if_neg h0, if_neg h1, if_neg h2, if_neg h3]
    refine ⟨ok9, by omega, fun p u q he => sub2 _ _ _ (hO.sub _ _ _ (hE3.2 (.inl he))), fun u hu => ?_, fun K hK hL => ?_, fun hl p hp hp2 => ?_, fun p hp => ?_⟩
    · have wrap : ∀ u, Rch N9.E N.nx.length u (N.nx.length + 1) → Rch N9.E a u b := fun u hu => by
        have := (Rch.cons (u := []) hac hu).trans (.one hdb)
        rwa [List.append_nil] at this
      rcases (hlang u).1 hu with ⟨k5, rfl⟩ | hu | ⟨k6, hu⟩
      · exact .one (hE9.2 (.inr (.inr (.inr ⟨k5, rfl, rfl, rfl⟩))))
      · exact wrap u (once u hu)
      · exact wrap u (plus k6 u hu)
    · -- what is ascribed to d, and to c
      let D : List Int → Prop := fun w => K b w ∨ (k ≠ 6 ∧ ∃ u v, w = u ++ v ∧ Plus (langOne ty l) u ∧ K b v)
      let C : List Int → Prop := fun w => ∃ u v, w = u ++ v ∧ langOne ty l u ∧ D v
      have hCD : ∀ w, C w → K a w := by
        rintro w ⟨u, v, rfl, hu, hv | ⟨k6, x, y, rfl, hx, hy⟩⟩
        · exact hL u v ((hlang u).2 (.inr (.inl hu))) hv
        · rw [← List.append_assoc]
          exact hL (u ++ x) y ((hlang _).2 (.inr (.inr ⟨k6, .more hu hx⟩))) hy
      have hDC : k ≠ 6 → ∀ w, C w → D w := by
        rintro k6 w ⟨u, v, rfl, hu, hv | ⟨_, x, y, rfl, hx, hy⟩⟩
        · exact .inr ⟨k6, u, v, rfl, .one hu, hv⟩
        · exact .inr ⟨k6, u ++ x, y, by rw [List.append_assoc], .more hu hx, hy⟩
      let K0 : Nat → List Int → Prop := fun p w => if p = N.nx.length then C w else if p = N.nx.length + 1 then D w else K p w
      have k0 : ∀ p, p < N.nx.length → K0 p = K p := fun p hp => by
        funext w
        show (if p = N.nx.length then C w else if p = N.nx.length + 1 then D w else K p w) = K p w
        rw [if_neg (by omega), if_neg (by omega)]
      have kc : K0 N.nx.length = C := by
        funext w
        show (if N.nx.length = N.nx.length then C w else _) = C w
        rw [if_pos rfl]
      have kd : K0 (N.nx.length + 1) = D := by
        funext w
        show (if N.nx.length + 1 = N.nx.length then C w else if N.nx.length + 1 = N.nx.length + 1 then D w else _) = D w
        rw [if_neg (by omega), if_pos rfl]
      obtain ⟨K2, e2, s2⟩ := hO.sound K0 (fun p u q v he hv => by
          rcases hE3.1 he with he | ⟨rfl, rfl, rfl⟩
          · have hlt := Ok.lt h he
            rw [k0 p hlt.1]
            rw [k0 q hlt.2] at hv
            exact hK p u q v he hv
          · rw [k0 _ ha]
            rw [kc] at hv
            exact hCD v hv) (fun u v hu hv => by
          rw [kc]
          rw [kd] at hv
          exact ⟨u, v, rfl, hu, hv⟩)
      have f0 : ∀ p, p < N.nx.length → K2 p = K p := fun p hp => by rw [e2 p (by omega), k0 p hp]
      refine ⟨K2, f0, fun p u q v he hv => ?_⟩
      rcases hE9.1 he with he | ⟨rfl, rfl, rfl⟩ | ⟨k6, rfl, rfl, rfl⟩ | ⟨k5, rfl, rfl, rfl⟩
      · exact s2 p u q v he hv
      · rw [e2 _ (by omega), kd]
        rw [f0 _ hb] at hv
        exact .inl hv
      · rw [e2 _ (by omega), kd]
        rw [e2 _ (by omega), kc] at hv
        exact hDC k6 v hv
      · rw [f0 _ ha]
        rw [f0 _ hb] at hv
        exact hL [] v ((hlang []).2 (.inl ⟨k5, rfl⟩)) hv
    · rw [liveE, if_neg h0, if_neg h1, if_neg h2, if_neg h3] at hl
      obtain ⟨w, _, hw⟩ := lang_one_some ty l hl.1 hl.2
      have dv : Rch N9.E (N.nx.length + 1) [] b := .one hdb
      by_cases hc : p = N.nx.length
      · subst hc
        exact ⟨w ++ [], (once w hw).trans dv⟩
      · by_cases hd : p = N.nx.length + 1
        · subst hd
          exact ⟨[], dv⟩
        · obtain ⟨v, hv⟩ := hO.trim hl.2 p (by omega) (by omega)
          exact ⟨v ++ [], (hv.mono sub2).trans dv⟩
    · rw [by9, hO.none p (by omega)]
      simp only [NetD.free, NetD.place, getD_app1]
      have := h.bl
      rw [if_neg (by simp; omega), if_neg (by omega)]
theorem laid_seq (ty : ByteArray → List Int) : ∀ (l : List Ex) (N : NetD) (a b : Nat), N.Ok → a < N.nx.length → b < N.nx.length → Laid N (laySeq ty l a b N) a b (langSeq ty l) (liveSeq ty l)
  | [], N, a, b, h, ha, hb => by
    rw [laySeq]
    exact (laid_free h ha hb).imp (fun w => by rw [langSeq]) (fun _ => trivial)
  | x :: r, N, a, b, h, ha, hb => by
    rw [laySeq]
    have o1 := NetD.place_ok h
    have h1 := laid_E ty x N.place a N.nx.length o1 (by rw [NetD.place_len]; omega) (by rw [NetD.place_len]; omega)
    have hl1 := h1.le
    rw [NetD.place_len] at hl1
    have h2 := laid_seq ty r (layE ty x a N.nx.length N.place) N.nx.length b h1.ok (by omega) (by omega)
    exact (Laid.over h h1 h2 ha hb (fun hm => lang_seq_some ty r hm)).imp (fun w => by rw [langSeq]) (fun hl => by rw [liveSeq] at hl; exact hl)
theorem laid_alt (ty : ByteArray → List Int) : ∀ (l : List Ex) (N : NetD) (a b : Nat), N.Ok → a < N.nx.length → b < N.nx.length → Laid N (layAlt ty l a b N) a b (langAlt ty l) (liveSeq ty l)
  | [], N, a, b, h, ha, hb => by
    rw [layAlt]
    exact ⟨h, Nat.le_refl _, fun _ _ _ he => he, fun u hu => by rw [langAlt] at hu; exact hu.elim, fun K hK _ => ⟨K, fun _ _ => rfl, hK⟩, fun _ p h1 h2 => by omega, fun _ _ => rfl⟩
  | x :: r, N, a, b, h, ha, hb => by
    rw [layAlt]
    have h1 := laid_E ty x N a b h ha hb
    have hl1 := h1.le
    have h2 := laid_alt ty r (layE ty x a b N) a b h1.ok (by omega) (by omega)
    exact (Laid.both h1 h2 ha hb).imp (fun w => by rw [langAlt]) (fun hl => by rw [liveSeq] at hl; exact hl)
theorem laid_one (ty : ByteArray → List Int) : ∀ (l : List Ex) (N : NetD) (a b : Nat), N.Ok → a < N.nx.length → b < N.nx.length → Laid N (layOne ty l a b N) a b (langOne ty l) (liveSeq ty l)
  | [], N, a, b, h, ha, hb => by
    rw [layOne]
    exact ⟨h, Nat.le_refl _, fun _ _ _ he => he, fun u hu => by rw [langOne] at hu; exact hu.elim, fun K hK _ => ⟨K, fun _ _ => rfl, hK⟩, fun _ p h1 h2 => by omega, fun _ _ => rfl⟩
  | x :: r, N, a, b, h, ha, hb => by
    rw [layOne]
    exact (laid_E ty x N a b h ha hb).imp (fun w => by rw [langOne]) (fun hl => by rw [liveSeq] at hl; exact hl.1)
end
def net0 : NetD := ⟨[[], []], [[], []], [-1, -1]⟩
theorem net0_ok : net0.Ok := by
  refine ⟨rfl, rfl, fun p q hq => ?_, fun p hp => ?_⟩
  · have : net0.tos.getD p [] = [] := by
      match p with
      | 0 => rfl
      | 1 => rfl
      | p + 2 => rfl
    rw [this] at hq
    cases hq
  · have : net0.bys.getD p [] = [] := by
      match p with
      | 0 => rfl
      | 1 => rfl
      | p + 2 => rfl
    exact absurd this hp
theorem net0_E {p : Nat} {u : List Int} {q : Nat} : ¬ net0.E p u q := fun h => by
  have h1 : net0.tos.getD p [] = [] := by
    match p with
    | 0 => rfl
    | 1 => rfl
    | p + 2 => rfl
  have h2 : net0.bys.getD p [] = [] := by
    match p with
    | 0 => rfl
    | 1 => rfl
    | p + 2 => rfl
  rcases h with ⟨_, h⟩ | ⟨t, _, h, _⟩
  · rw [h1] at h; cases h
  · rw [h2] at h; cases h
/-- The net of a tree. -/
def netOf (ty : ByteArray → List Int) (e : Ex) : NetD := layE ty e 0 1 net0
theorem net_laid (ty : ByteArray → List Int) (e : Ex) : Laid net0 (netOf ty e) 0 1 (langE ty e) (liveE ty e) := laid_E ty e net0 0 1 net0_ok (by decide) (by decide)
/-- A word is one of the tree's just if it leads to the end. -/
theorem net_word (ty : ByteArray → List Int) (e : Ex) (w : List Int) : Rch (netOf ty e).E 0 w 1 ↔ langE ty e w := by
  have h := net_laid ty e
  constructor
  · intro hw
    obtain ⟨K', e1, s1⟩ := h.sound (fun p w => if p = 0 then langE ty e w else w = []) (fun p u q v he _ => absurd he net0_E) (fun u v hu hv => by
      simp only [if_true]
      simp only [if_neg (show ¬ (1 = 0) by decide)] at hv
      rw [hv, List.append_nil]
      exact hu)
    have key : ∀ p u q, Rch (netOf ty e).E p u q → ∀ v, K' q v → K' p (u ++ v) := by
      intro p u q hr
      induction hr with
      | nil p => intro v hv; exact hv
      | cons he _ ih => intro v hv; rw [List.append_assoc]; exact s1 _ _ _ _ he (ih v hv)
    have := key 0 w 1 hw [] (by rw [e1 1 (by decide)]; simp)
    rw [e1 0 (by decide), List.append_nil] at this
    simpa using this
  · exact h.word w
theorem Rch.split {N : NetD} {p q : Nat} {w : List Int} (h : Rch N.E p w q) : ∀ u v, w = u ++ v → ∃ r, Rch N.E p u r ∧ Rch N.E r v q := by
  induction h with
  | nil p =>
    intro u v h
    obtain ⟨rfl, rfl⟩ := List.append_eq_nil_iff.1 h.symm
    exact ⟨p, .nil p, .nil p⟩
  | @cons p r q x y he hr ih =>
    intro u v h
    have hx : x = [] ∨ ∃ t, x = [t] := by
      rcases he with ⟨h, _⟩ | ⟨t, h, _⟩
      · exact .inl h
      · exact .inr ⟨t, h⟩
    rcases hx with rfl | ⟨t, rfl⟩
    · obtain ⟨s, h1, h2⟩ := ih u v (by simpa using h)
      exact ⟨s, .cons (u := []) he h1, h2⟩
    · cases u with
      | nil =>
        refine ⟨p, .nil p, ?_⟩
        have h' : v = [t] ++ y := by simpa using h.symm
        rw [h']
        exact .cons he hr
      | cons t' u' =>
        simp only [List.cons_append, List.nil_append, List.cons.injEq] at h
        obtain ⟨rfl, h⟩ := h
        obtain ⟨s, h1, h2⟩ := ih u' v h
        exact ⟨s, .cons (u := [t]) he h1, h2⟩
/-- A word leads anywhere just if it begins one. -/
theorem net_live (ty : ByteArray → List Int) (e : Ex) (hl : liveE ty e) (w : List Int) : (∃ j, Rch (netOf ty e).E 0 w j) ↔ ∃ v, langE ty e (w ++ v) := by
  have h := net_laid ty e
  constructor
  · rintro ⟨j, hj⟩
    have : ∃ v, Rch (netOf ty e).E j v 1 := by
      by_cases h0 : j = 0
      · subst h0
        obtain ⟨v, hv⟩ := lang_some ty e hl
        exact ⟨v, h.word v hv⟩
      · by_cases h1 : j = 1
        · subst h1
          exact ⟨[], .nil 1⟩
        · refine h.trim hl j (show 2 ≤ j by omega) ?_
          have lt : ∀ p u q, Rch (netOf ty e).E p u q → p = q ∨ q < (netOf ty e).nx.length := by
            intro p u q hr
            induction hr with
            | nil p => exact .inl rfl
            | cons he _ ih =>
              have := Ok.lt h.ok he
              rcases ih with rfl | ih
              · exact .inr this.2
              · exact .inr ih
          rcases lt _ _ _ hj with h3 | h3
          · exact absurd h3.symm h0
          · exact h3
    obtain ⟨v, hv⟩ := this
    exact ⟨v, (net_word ty e _).1 (hj.trans hv)⟩
  · rintro ⟨v, hv⟩
    obtain ⟨r, h1, _⟩ := ((net_word ty e _).2 hv).split w v rfl
    exact ⟨r, h1⟩
end Go.Proofs.YtofjodppljnlaaaGreatDoor
namespace Go.Proofs.YtofjodppljnlaaaGreatDoor
open Go.RowKit
set_option linter.unusedVariables false
set_option linter.unusedSimpArgs false
/-- The ways without a type: a row of rows, each its own block. Each block bears a label; different ones are different blocks. -/
structure CT (w : World) (M : Nat → Prop) (lab : Nat → Nat) (v : Value) (fs : List (List Int)) (vs : List Value) : Prop where
  own : w.ownsRow 0 83 1 v fs.length vs
  inM : ∀ k, v.ownBlock = some k → M k ∧ lab k = 1
  each : ∀ (i : Nat) (u : Value) (x : List Int), vs[i]? = some u → fs[i]? = some x → intR.own 3 w (fun k => u.ownBlock = some k) u x ∧ ∀ k, u.ownBlock = some k → M k ∧ lab k = 4 + i
structure CB (w : World) (B : Nat) (M : Nat → Prop) (lab : Nat → Nat) (v : Value) (bs : List (List Int)) : Prop where
  own : intR.slice.own 83 w (fun k => k < B ∨ v.ownBlock = some k) v bs
  inM : ∀ k, v.ownBlock = some k → M k ∧ lab k = 2
structure CN (w : World) (M : Nat → Prop) (lab : Nat → Nat) (v : Value) (xs : List Int) : Prop where
  own : intR.own 3 w (fun k => v.ownBlock = some k) v xs
  inM : ∀ k, v.ownBlock = some k → M k ∧ lab k = 3
structure NetS (w : World) (B : Nat) (M : Nat → Prop) (lab : Nat → Nat) (nb : Nat) (N : NetD) (tv bv nv : Value) (vs : List Value) : Prop where
  blk : w.heap[nb]? = some (.cells #[tv, bv, nv] 229 (0, 0))
  nbM : M nb ∧ lab nb = 0
  low : ∀ k, M k → B ≤ k ∧ k < w.heap.size
  ct : CT w M lab tv N.tos vs
  cb : CB w B M lab bv N.bys
  cn : CN w M lab nv N.nx
/-- New blocks get a label. -/
def relab (n j : Nat) (lab : Nat → Nat) (k : Nat) : Nat := if k < n then lab k else j
theorem relab_old {n j k : Nat} {lab : Nat → Nat} (h : k < n) : relab n j lab k = lab k := by unfold relab; rw [if_pos h]
theorem relab_new {n j k : Nat} {lab : Nat → Nat} (h : n ≤ k) : relab n j lab k = j := by unfold relab; rw [if_neg (by omega)]
abbrev MNew (M : Nat → Prop) (lo hi : Nat) : Nat → Prop := fun k => M k ∨ (lo ≤ k ∧ k < hi)
section
variable {w w1 : World} {B : Nat} {M M' S : Nat → Prop} {lab lab' : Nat → Nat}
theorem CT.upd {v : Value} {fs : List (List Int)} {vs : List Value} (h : CT w M lab v fs vs) (hlow : ∀ k, M k → k < w.heap.size) (hu : Upd S w w1) (hS : ∀ k, M k → S k → lab k ≠ 1 ∧ lab k < 4) (hM : ∀ k, M k → M' k ∧ lab' k = lab k) : CT w1 M' lab' v fs vs where
  own := ownsRow_upd h.own hu (fun k hk hs => (hS k (h.inM k hk).1 hs).1 (h.inM k hk).2)
  inM := fun k hk => by
    obtain ⟨h1, h2⟩ := h.inM k hk
    obtain ⟨h3, h4⟩ := hM k h1
    exact ⟨h3, h4.trans h2⟩
  each := fun i u x h1 h2 => by
    obtain ⟨h3, h4⟩ := h.each i u x h1 h2
    refine ⟨Rp.own_upd h3 hu (fun k _ hk hs => ?_), fun k hk => ?_⟩
    · obtain ⟨h5, h6⟩ := h4 k hk
      have := (hS k h5 hs).2
      omega
    · obtain ⟨h5, h6⟩ := h4 k hk
      obtain ⟨h7, h8⟩ := hM k h5
      exact ⟨h7, h8.trans h6⟩
theorem CB.upd {v : Value} {bs : List (List Int)} (h : CB w B M lab v bs) (hlow : ∀ k, M k → B ≤ k) (hu : Upd S w w1) (hS : ∀ k, k < w.heap.size → S k → M k ∧ lab k ≠ 2) (hM : ∀ k, M k → M' k ∧ lab' k = lab k) : CB w1 B M' lab' v bs where
  own := Rp.own_upd h.own hu (fun k hl hk hs => by
    obtain ⟨h1, h2⟩ := hS k hl hs
    rcases hk with hk | hk
    · have := hlow k h1
      omega
    · exact h2 (h.inM k hk).2)
  inM := fun k hk => by
    obtain ⟨h1, h2⟩ := h.inM k hk
    obtain ⟨h3, h4⟩ := hM k h1
    exact ⟨h3, h4.trans h2⟩
theorem CN.upd {v : Value} {xs : List Int} (h : CN w M lab v xs) (hu : Upd S w w1) (hS : ∀ k, M k → S k → lab k ≠ 3) (hM : ∀ k, M k → M' k ∧ lab' k = lab k) : CN w1 M' lab' v xs where
  own := Rp.own_upd h.own hu (fun k hl hk hs => hS k (h.inM k hk).1 hs (h.inM k hk).2)
  inM := fun k hk => by
    obtain ⟨h1, h2⟩ := h.inM k hk
    obtain ⟨h3, h4⟩ := hM k h1
    exact ⟨h3, h4.trans h2⟩
end
section
variable {w w2 : World} {B : Nat} {M : Nat → Prop} {lab : Nat → Nat} {nb : Nat} {N : NetD} {tv bv nv v1 : Value} {vs : List Value}
theorem NetS.upd {S : Nat → Prop} (h : NetS w B M lab nb N tv bv nv vs) (hu : Upd S w w2) (hs : ∀ k, k < w.heap.size → S k → B ≤ k ∧ ¬ M k) : NetS w2 B M lab nb N tv bv nv vs where
  blk := by rw [hu.block nb (h.low nb h.nbM.1).2 (fun hS => (hs nb (h.low nb h.nbM.1).2 hS).2 h.nbM.1)]; exact h.blk
  nbM := h.nbM
  low := fun k hk => ⟨(h.low k hk).1, Nat.lt_of_lt_of_le (h.low k hk).2 hu.size⟩
  ct := h.ct.upd (S := S) (fun k hk => (h.low k hk).2) hu (fun k hk hS => absurd hk (hs k (h.low k hk).2 hS).2) (fun k hk => ⟨hk, rfl⟩)
  cb := ⟨Rp.own_upd h.cb.own hu (fun k hl hk hS => by
      have := hs k hl hS
      rcases hk with hk | hk
      · omega
      · exact this.2 (h.cb.inM k hk).1), h.cb.inM⟩
  cn := h.cn.upd hu (fun k hk hS => absurd hk (hs k (h.low k hk).2 hS).2) (fun k hk => ⟨hk, rfl⟩)
theorem NetS.pure (h : NetS w B M lab nb N tv bv nv vs) (hu : Pure w w2) : NetS w2 B M lab nb N tv bv nv vs := h.upd hu (fun _ _ h => h.elim)
/-- The frame of a write of one row and of the box. -/
theorem frame_low (h : NetS w B M lab nb N tv bv nv vs) (hU : w.heap.size ≤ w2.heap.size) : ∀ k, MNew M w.heap.size w2.heap.size k → B ≤ k ∧ k < w2.heap.size := by
  have hB : B ≤ w.heap.size := by have := h.low nb h.nbM.1; omega
  rintro k (hk | hk)
  · exact ⟨(h.low k hk).1, Nat.lt_of_lt_of_le (h.low k hk).2 hU⟩
  · exact ⟨by omega, hk.2⟩
theorem frame_lab (h : NetS w B M lab nb N tv bv nv vs) (j hi : Nat) : ∀ k, M k → MNew M w.heap.size hi k ∧ relab w.heap.size j lab k = lab k := fun k hk => ⟨.inl hk, relab_old (h.low k hk).2⟩
theorem frame_v1 {v : Value} {j : Nat} (h : NetS w B M lab nb N tv bv nv vs) (hv : ∀ k, v.ownBlock = some k → M k ∧ lab k = j) (hlt : ∀ k, v1.ownBlock = some k → k < w2.heap.size) (hat : v1.ownBlock = v.ownBlock ∨ ∃ b, v1.ownBlock = some b ∧ w.heap.size ≤ b) :
    ∀ k, v1.ownBlock = some k → MNew M w.heap.size w2.heap.size k ∧ relab w.heap.size j lab k = j := by
  intro k hk
  have h4 := hlt k hk
  rcases hat with hat | ⟨b, hb, hle⟩
  · obtain ⟨h1, h2⟩ := hv k (hat ▸ hk)
    exact ⟨.inl h1, (relab_old (h.low k h1).2).trans h2⟩
  · rw [hb] at hk
    injection hk with hk
    exact ⟨.inr ⟨by omega, h4⟩, relab_new (by omega)⟩
theorem NetS.to1 (h : NetS w B M lab nb N tv bv nv vs) (ho : w2.ownsRow 0 83 1 v1 (N.tos.length + 1) (vs ++ [.slice none 0 0])) (hU : Upd (fun k => tv.ownBlock = some k) w w2) (hat : v1.ownBlock = tv.ownBlock ∨ ∃ b, v1.ownBlock = some b ∧ w.heap.size ≤ b) :
    NetS (w2.setCell ⟨nb, 0, none⟩ v1) B (MNew M w.heap.size w2.heap.size) (relab w.heap.size 1 lab) nb ⟨N.tos ++ [[]], N.bys, N.nx⟩ v1 bv nv (vs ++ [.slice none 0 0]) ∧ Upd M w (w2.setCell ⟨nb, 0, none⟩ v1) := by
  have hsz : (w2.setCell ⟨nb, 0, none⟩ v1).heap.size = w2.heap.size := by simp [World.setCell]
  have hl : vs.length = N.tos.length := by simpa using h.ct.own.1
  have hnb : tv.ownBlock ≠ some nb := fun e => by have := (h.ct.inM nb e).2; have := h.nbM.2; omega
  have hblk2 : w2.heap[nb]? = some (.cells #[tv, bv, nv] 229 (0, 0)) := by rw [hU.block nb (h.low nb h.nbM.1).2 hnb]; exact h.blk
  have hU2 : Upd (fun k => tv.ownBlock = some k ∨ k = nb) w (w2.setCell ⟨nb, 0, none⟩ v1) := (hU.mono (fun k _ hk => .inl hk)).setCell (p := ⟨nb, 0, none⟩) (fun _ => .inr rfl) v1
  have hv1 := frame_v1 (w2 := w2) h h.ct.inM (fun k hk => (ho.lt k hk).2) hat
  have hS : ∀ k, (tv.ownBlock = some k ∨ k = nb) → M k ∧ lab k ≤ 1 := by
    rintro k (hk | rfl)
    · exact ⟨(h.ct.inM k hk).1, Nat.le_of_eq (h.ct.inM k hk).2⟩
    · exact ⟨h.nbM.1, by rw [h.nbM.2]; omega⟩
  have hnb1 : v1.ownBlock ≠ some nb := fun e => by
    have := (hv1 nb e).2
    rw [relab_old (h.low nb h.nbM.1).2, h.nbM.2] at this
    omega
  refine ⟨⟨by simp [World.setCell, Array.getElem?_modify, hblk2], ⟨.inl h.nbM.1, (relab_old (h.low nb h.nbM.1).2).trans h.nbM.2⟩, ?_, ⟨?_, hv1, ?_⟩, ?_, ?_⟩, hU2.mono (fun k _ hk => (hS k hk).1)⟩
  · rw [hsz]; exact frame_low h hU.size
  · rw [List.length_append]
    exact ownsRow_upd ho (Upd.setCell1 (S := fun k => k = nb) w2 (p := ⟨nb, 0, none⟩) rfl v1) (fun k hk he => hnb1 (he ▸ hk))
  · intro i u x hu hx
    rcases Nat.lt_or_ge i vs.length with hi | hi
    · rw [List.getElem?_append_left hi] at hu
      rw [List.getElem?_append_left (by omega)] at hx
      obtain ⟨h5, h6⟩ := h.ct.each i u x hu hx
      refine ⟨Rp.own_upd h5 hU2 (fun k _ hk hs => ?_), fun k hk => ?_⟩
      · have h7 := (h6 k hk).2
        have h8 := (hS k hs).2
        omega
      · obtain ⟨h7, h8⟩ := h6 k hk
        exact ⟨.inl h7, (relab_old (h.low k h7).2).trans h8⟩
    · rw [List.getElem?_append_right hi] at hu
      rw [List.getElem?_append_right (by omega)] at hx
      match hk : i - vs.length, hu with
      | 0, hu =>
        rw [← hl, hk] at hx
        simp at hu hx
        subst hu hx
        exact ⟨Rp.own_nil _ _ _ _, fun k hk => by simp [Value.ownBlock] at hk⟩
      | j + 1, hu => simp at hu
  · exact h.cb.upd (fun k hk => (h.low k hk).1) hU2 (fun k _ hs => ⟨(hS k hs).1, by have := (hS k hs).2; omega⟩) (frame_lab h 1 _)
  · exact h.cn.upd hU2 (fun k _ hs => by have := (hS k hs).2; omega) (frame_lab h 1 _)
theorem NetS.by1 {x : List Int} (h : NetS w B M lab nb N tv bv nv vs) (ho : intR.slice.own 83 w2 (fun k => k < B ∨ v1.ownBlock = some k) v1 (N.bys ++ [x])) (hU : Upd (fun k => bv.ownBlock = some k) w w2) (hat : v1.ownBlock = bv.ownBlock ∨ ∃ b, v1.ownBlock = some b ∧ w.heap.size ≤ b) :
    NetS (w2.setCell ⟨nb, 1, none⟩ v1) B (MNew M w.heap.size w2.heap.size) (relab w.heap.size 2 lab) nb ⟨N.tos, N.bys ++ [x], N.nx⟩ tv v1 nv vs ∧ Upd M w (w2.setCell ⟨nb, 1, none⟩ v1) := by
  have hsz : (w2.setCell ⟨nb, 1, none⟩ v1).heap.size = w2.heap.size := by simp [World.setCell]
  have hnb : bv.ownBlock ≠ some nb := fun e => by have := (h.cb.inM nb e).2; have := h.nbM.2; omega
  have hblk2 : w2.heap[nb]? = some (.cells #[tv, bv, nv] 229 (0, 0)) := by rw [hU.block nb (h.low nb h.nbM.1).2 hnb]; exact h.blk
  have hU2 : Upd (fun k => bv.ownBlock = some k ∨ k = nb) w (w2.setCell ⟨nb, 1, none⟩ v1) := (hU.mono (fun k _ hk => .inl hk)).setCell (p := ⟨nb, 1, none⟩) (fun _ => .inr rfl) v1
  have hv1 := frame_v1 (w2 := w2) h h.cb.inM (fun k hk => (Rp.own_block_lt ho k hk).2) hat
  have hS : ∀ k, (bv.ownBlock = some k ∨ k = nb) → M k ∧ (lab k = 0 ∨ lab k = 2) := by
    rintro k (hk | rfl)
    · exact ⟨(h.cb.inM k hk).1, .inr (h.cb.inM k hk).2⟩
    · exact ⟨h.nbM.1, .inl h.nbM.2⟩
  have hnb1 : v1.ownBlock ≠ some nb := fun e => by
    have := (hv1 nb e).2
    rw [relab_old (h.low nb h.nbM.1).2, h.nbM.2] at this
    omega
  have hBn := (h.low nb h.nbM.1).1
  refine ⟨⟨by simp [World.setCell, Array.getElem?_modify, hblk2], ⟨.inl h.nbM.1, (relab_old (h.low nb h.nbM.1).2).trans h.nbM.2⟩, ?_, ?_, ⟨?_, hv1⟩, ?_⟩, hU2.mono (fun k _ hk => (hS k hk).1)⟩
  · rw [hsz]; exact frame_low h hU.size
  · exact h.ct.upd (fun k hk => (h.low k hk).2) hU2 (fun k _ hs => by have := (hS k hs).2; omega) (frame_lab h 2 _)
  · exact Rp.own_upd ho (Upd.setCell1 (S := fun k => k = nb) w2 (p := ⟨nb, 1, none⟩) rfl v1) (fun k _ hk he => by
      rcases hk with hk | hk
      · omega
      · exact hnb1 (he ▸ hk))
  · exact h.cn.upd hU2 (fun k _ hs => by have := (hS k hs).2; omega) (frame_lab h 2 _)
theorem NetS.nx1 {x : Int} {F : Nat → Prop} (h : NetS w B M lab nb N tv bv nv vs) (ho : intR.own 3 w2 F v1 (N.nx ++ [x])) (hU : Upd (fun k => nv.ownBlock = some k) w w2) (hat : v1.ownBlock = nv.ownBlock ∨ ∃ b, v1.ownBlock = some b ∧ w.heap.size ≤ b) :
    NetS (w2.setCell ⟨nb, 2, none⟩ v1) B (MNew M w.heap.size w2.heap.size) (relab w.heap.size 3 lab) nb ⟨N.tos, N.bys, N.nx ++ [x]⟩ tv bv v1 vs ∧ Upd M w (w2.setCell ⟨nb, 2, none⟩ v1) := by
  have hsz : (w2.setCell ⟨nb, 2, none⟩ v1).heap.size = w2.heap.size := by simp [World.setCell]
  have hnb : nv.ownBlock ≠ some nb := fun e => by have := (h.cn.inM nb e).2; have := h.nbM.2; omega
  have hblk2 : w2.heap[nb]? = some (.cells #[tv, bv, nv] 229 (0, 0)) := by rw [hU.block nb (h.low nb h.nbM.1).2 hnb]; exact h.blk
  have hU2 : Upd (fun k => nv.ownBlock = some k ∨ k = nb) w (w2.setCell ⟨nb, 2, none⟩ v1) := (hU.mono (fun k _ hk => .inl hk)).setCell (p := ⟨nb, 2, none⟩) (fun _ => .inr rfl) v1
  have hv1 := frame_v1 (w2 := w2) h h.cn.inM (fun k hk => (Rp.own_block_lt ho k hk).2) hat
  have hS : ∀ k, (nv.ownBlock = some k ∨ k = nb) → M k ∧ (lab k = 0 ∨ lab k = 3) := by
    rintro k (hk | rfl)
    · exact ⟨(h.cn.inM k hk).1, .inr (h.cn.inM k hk).2⟩
    · exact ⟨h.nbM.1, .inl h.nbM.2⟩
  have hnb1 : v1.ownBlock ≠ some nb := fun e => by
    have := (hv1 nb e).2
    rw [relab_old (h.low nb h.nbM.1).2, h.nbM.2] at this
    omega
  refine ⟨⟨by simp [World.setCell, Array.getElem?_modify, hblk2], ⟨.inl h.nbM.1, (relab_old (h.low nb h.nbM.1).2).trans h.nbM.2⟩, ?_, ?_, ?_, ⟨?_, hv1⟩⟩, hU2.mono (fun k _ hk => (hS k hk).1)⟩
  · rw [hsz]; exact frame_low h hU.size
  · exact h.ct.upd (fun k hk => (h.low k hk).2) hU2 (fun k _ hs => by have := (hS k hs).2; omega) (frame_lab h 3 _)
  · exact h.cb.upd (fun k hk => (h.low k hk).1) hU2 (fun k _ hs => ⟨(hS k hs).1, by have := (hS k hs).2; omega⟩) (frame_lab h 3 _)
  · exact int_own_fp (Rp.own_upd (int_own_fp ho) (Upd.setCell1 (S := fun k => k = nb) w2 (p := ⟨nb, 2, none⟩) rfl v1) (fun k _ hk he => hnb1 (he ▸ hk)))
/-- A way more from a: its row grown, and laid anew. -/
theorem NetS.free1 {fb cap a : Nat} {x : List Int} {u u1 : Value} {y : List Int} {F : Nat → Prop} (h : NetS w B M lab nb N (.slice (some ⟨fb, 0, none⟩) N.tos.length cap) bv nv vs) (hx : N.tos[a]? = some x) (hu : vs[a]? = some u)
    (ho : intR.own 3 w2 F u1 (x ++ y)) (hU : Upd (fun k => u.ownBlock = some k) w w2) (hat : u1.ownBlock = u.ownBlock ∨ ∃ b, u1.ownBlock = some b ∧ w.heap.size ≤ b) :
    NetS (w2.setCell ⟨fb, a, none⟩ u1) B (MNew M w.heap.size w2.heap.size) (relab w.heap.size (4 + a) lab) nb ⟨N.tos.modify a (· ++ y), N.bys, N.nx⟩ (.slice (some ⟨fb, 0, none⟩) (N.tos.modify a (· ++ y)).length cap) bv nv (vs.set a u1) ∧ Upd M w (w2.setCell ⟨fb, a, none⟩ u1) := by
  have hsz : (w2.setCell ⟨fb, a, none⟩ u1).heap.size = w2.heap.size := by simp [World.setCell]
  obtain ⟨h1, h2⟩ := h.ct.each a u x hu hx
  have hfb := h.ct.inM fb rfl
  have ha : a < N.tos.length := (List.getElem?_eq_some_iff.1 hx).1
  have hav : a < vs.length := (List.getElem?_eq_some_iff.1 hu).1
  have hU2 : Upd (fun k => u.ownBlock = some k ∨ k = fb) w (w2.setCell ⟨fb, a, none⟩ u1) := (hU.mono (fun k _ hk => .inl hk)).setCell (p := ⟨fb, a, none⟩) (fun _ => .inr rfl) u1
  have hv1 := frame_v1 (w2 := w2) (v := u) (j := 4 + a) h h2 (fun k hk => (Rp.own_block_lt ho k hk).2) hat
  have hS : ∀ k, (u.ownBlock = some k ∨ k = fb) → M k ∧ (lab k = 4 + a ∨ lab k = 1) := by
    rintro k (hk | rfl)
    · exact ⟨(h2 k hk).1, .inl (h2 k hk).2⟩
    · exact ⟨hfb.1, .inr hfb.2⟩
  have hfb1 : u1.ownBlock ≠ some fb := fun e => by
    have := (hv1 fb e).2
    rw [relab_old (h.low fb hfb.1).2, hfb.2] at this
    omega
  have hmod : ∀ i, i ≠ a → (N.tos.modify a (· ++ y))[i]? = N.tos[i]? := fun i hi => by rw [List.getElem?_modify]; simp [Ne.symm hi]
  have hmodn : (N.tos.modify a (· ++ y))[a]? = some (x ++ y) := by rw [List.getElem?_modify]; simp [hx]
  have hset : ∀ i, i ≠ a → (vs.set a u1)[i]? = vs[i]? := fun i hi => by rw [List.getElem?_set]; simp [Ne.symm hi]
  have hsetn : (vs.set a u1)[a]? = some u1 := by rw [List.getElem?_set]; simp [hav]
  refine ⟨⟨?_, ⟨.inl h.nbM.1, (relab_old (h.low nb h.nbM.1).2).trans h.nbM.2⟩, ?_, ⟨?_, ?_, ?_⟩, ?_, ?_⟩, hU2.mono (fun k _ hk => (hS k hk).1)⟩
  · rw [hU2.block nb (h.low nb h.nbM.1).2 (fun hs => by have := (hS nb hs).2; have := h.nbM.2; omega), List.length_modify]
    exact h.blk
  · rw [hsz]; exact frame_low h hU.size
  · rw [List.length_modify]
    exact ownsRow_set (ownsRow_upd h.ct.own hU (fun k hk hS => by
      have e1 := (h.ct.inM k hk).2
      have e2 := (h2 k hS).2
      omega)) ha u1
  · intro k hk
    obtain ⟨e1, e2⟩ := h.ct.inM k hk
    exact ⟨.inl e1, (relab_old (h.low k e1).2).trans e2⟩
  · intro i v z hv hz
    by_cases hi : i = a
    · subst hi
      rw [hsetn] at hv
      rw [hmodn] at hz
      cases hv
      cases hz
      exact ⟨int_own_fp (Rp.own_upd (int_own_fp ho) (Upd.setCell1 (S := fun k => k = fb) w2 (p := ⟨fb, i, none⟩) rfl u1) (fun k _ hk he => hfb1 (he ▸ hk))), hv1⟩
    · rw [hset i hi] at hv
      rw [hmod i hi] at hz
      obtain ⟨h5, h6⟩ := h.ct.each i v z hv hz
      refine ⟨Rp.own_upd h5 hU2 (fun k _ hk hs => ?_), fun k hk => ?_⟩
      · have h7 := (h6 k hk).2
        have h8 := (hS k hs).2
        omega
      · obtain ⟨h7, h8⟩ := h6 k hk
        exact ⟨.inl h7, (relab_old (h.low k h7).2).trans h8⟩
  · exact h.cb.upd (fun k hk => (h.low k hk).1) hU2 (fun k _ hs => ⟨(hS k hs).1, by have := (hS k hs).2; omega⟩) (frame_lab h (4 + a) _)
  · exact h.cn.upd hU2 (fun k _ hs => by have := (hS k hs).2; omega) (frame_lab h (4 + a) _)
/-- The types of a place. -/
theorem NetS.by2 {gb cap c : Nat} {x : List Int} {A1 : Option Addr} {c1 : Nat} (h : NetS w B M lab nb N tv (.slice (some ⟨gb, 0, none⟩) N.bys.length cap) nv vs) (hc : c < N.bys.length) (hx : intR.row w (fun k => k < B) A1 x) (hl : x.length ≤ c1) :
    NetS (w.setCell ⟨gb, c, none⟩ (.slice A1 x.length c1)) B M lab nb ⟨N.tos, N.bys.set c x, N.nx⟩ tv (.slice (some ⟨gb, 0, none⟩) (N.bys.set c x).length cap) nv vs ∧ Upd M w (w.setCell ⟨gb, c, none⟩ (.slice A1 x.length c1)) := by
  have hgb := h.cb.inM gb rfl
  have hU : Upd (fun k => k = gb) w (w.setCell ⟨gb, c, none⟩ (.slice A1 x.length c1)) := Upd.setCell1 (S := fun k => k = gb) w (p := ⟨gb, c, none⟩) rfl _
  have hsz : (w.setCell ⟨gb, c, none⟩ (.slice A1 x.length c1)).heap.size = w.heap.size := by simp [World.setCell]
  have hgB := (h.low gb hgb.1).1
  refine ⟨⟨?_, h.nbM, ?_, ?_, ⟨?_, h.cb.inM⟩, ?_⟩, hU.mono (fun k _ hk => hk ▸ hgb.1)⟩
  · rw [hU.block nb (h.low nb h.nbM.1).2 (fun e => by have h9 := h.nbM.2; rw [e, hgb.2] at h9; omega), List.length_set]
    exact h.blk
  · rw [hsz]; exact h.low
  · exact h.ct.upd (fun k hk => (h.low k hk).2) hU (fun k _ hs => by rw [hs, hgb.2]; omega) (fun k hk => ⟨hk, rfl⟩)
  · obtain ⟨inner, h1, h2, h3⟩ := h.cb.own
    have hil : inner.length = N.bys.length := h1.1.trans (Nat.mul_one _)
    refine ⟨inner.set c (.slice A1 x.length c1), by rw [List.length_set]; exact ownsRow_set h1 hc _, h2, ⟨by simp [hil, show intR.slice.sz = 1 from rfl], fun j y hy => ?_⟩⟩
    have hs1 : intR.slice.sz = 1 := rfl
    rw [hs1, Nat.mul_one]
    have hone : ∀ (L : List Value) (j : Nat) (v : Value), L[j]? = some v → (L.drop j).take 1 = [v] := fun L j v hv => by
      obtain ⟨e1, e2⟩ := List.getElem?_eq_some_iff.1 hv
      rw [List.drop_eq_getElem_cons e1, e2]
      rfl
    by_cases hj : j = c
    · subst hj
      rw [List.getElem?_set, if_pos rfl, if_pos hc] at hy
      cases hy
      rw [hone _ j (.slice A1 x.length c1) (by rw [List.getElem?_set, if_pos rfl, if_pos (by omega)])]
      refine ⟨A1, c1, rfl, hl, Rp.row_move (fun k hk hlt => ⟨⟨.inl hk, ?_⟩, by rw [hsz]; exact hlt, hU.block k hlt (fun e => by omega)⟩) hx⟩
      intro e
      simp [Value.ownBlock] at e
      omega
    · rw [List.getElem?_set, if_neg (Ne.symm hj)] at hy
      have h4 := h3.2 j y hy
      rw [hs1, Nat.mul_one] at h4
      have hjl : j < inner.length := by rw [hil]; exact (List.getElem?_eq_some_iff.1 hy).1
      rw [hone inner j _ (List.getElem?_eq_getElem hjl)] at h4
      rw [hone _ j inner[j] (by rw [List.getElem?_set, if_neg (Ne.symm hj)]; exact List.getElem?_eq_getElem hjl)]
      refine intR.slice.move (fun k hk hlt => ⟨hk, by rw [hsz]; exact hlt, hU.block k hlt (fun e => ?_)⟩) h4
      subst e
      exact hk.2 rfl
  · exact h.cn.upd hU (fun k _ hs => by rw [hs, hgb.2]; omega) (fun k hk => ⟨hk, rfl⟩)
/-- Where a place's types lead. -/
theorem NetS.nx2 {gb cap c : Nat} {x : Int} (h : NetS w B M lab nb N tv bv (.slice (some ⟨gb, 0, none⟩) N.nx.length cap) vs) (hc : c < N.nx.length) :
    NetS (w.setCell ⟨gb, c, none⟩ (.int .i64 x)) B M lab nb ⟨N.tos, N.bys, N.nx.set c x⟩ tv bv (.slice (some ⟨gb, 0, none⟩) (N.nx.set c x).length cap) vs ∧ Upd M w (w.setCell ⟨gb, c, none⟩ (.int .i64 x)) := by
  have hgb := h.cn.inM gb rfl
  have hU : Upd (fun k => k = gb) w (w.setCell ⟨gb, c, none⟩ (.int .i64 x)) := Upd.setCell1 (S := fun k => k = gb) w (p := ⟨gb, c, none⟩) rfl _
  have hsz : (w.setCell ⟨gb, c, none⟩ (.int .i64 x)).heap.size = w.heap.size := by simp [World.setCell]
  refine ⟨⟨?_, h.nbM, ?_, ?_, ?_, ⟨?_, h.cn.inM⟩⟩, hU.mono (fun k _ hk => hk ▸ hgb.1)⟩
  · rw [hU.block nb (h.low nb h.nbM.1).2 (fun e => by have h9 := h.nbM.2; rw [e, hgb.2] at h9; omega), List.length_set]
    exact h.blk
  · rw [hsz]; exact h.low
  · exact h.ct.upd (fun k hk => (h.low k hk).2) hU (fun k _ hs => by rw [hs, hgb.2]; omega) (fun k hk => ⟨hk, rfl⟩)
  · exact h.cb.upd (fun k hk => (h.low k hk).1) hU (fun k _ hs => by rw [hs]; exact ⟨hgb.1, by rw [hgb.2]; omega⟩) (fun k hk => ⟨hk, rfl⟩)
  · obtain ⟨inner, h1, h2, h3⟩ := h.cn.own
    have hil : inner.length = N.nx.length := h1.1.trans (Nat.mul_one _)
    refine ⟨inner.set c (.int .i64 x), by rw [List.length_set]; exact ownsRow_set h1 hc _, h2, ⟨by simp [hil, show intR.sz = 1 from rfl], fun j y hy => ?_⟩⟩
    have hs1 : intR.sz = 1 := rfl
    rw [hs1, Nat.mul_one]
    have hone : ∀ (L : List Value) (j : Nat) (v : Value), L[j]? = some v → (L.drop j).take 1 = [v] := fun L j v hv => by
      obtain ⟨e1, e2⟩ := List.getElem?_eq_some_iff.1 hv
      rw [List.drop_eq_getElem_cons e1, e2]
      rfl
    by_cases hj : j = c
    · subst hj
      rw [List.getElem?_set, if_pos rfl, if_pos hc] at hy
      cases hy
      rw [hone _ j (.int .i64 x) (by rw [List.getElem?_set, if_pos rfl, if_pos (by omega)])]
      rfl
    · rw [List.getElem?_set, if_neg (Ne.symm hj)] at hy
      have h4 := h3.2 j y hy
      rw [hs1, Nat.mul_one] at h4
      have hjl : j < inner.length := by rw [hil]; exact (List.getElem?_eq_some_iff.1 hy).1
      rw [hone inner j _ (List.getElem?_eq_getElem hjl)] at h4
      rw [hone _ j inner[j] (by rw [List.getElem?_set, if_neg (Ne.symm hj)]; exact List.getElem?_eq_getElem hjl)]
      exact h4
end
end Go.Proofs.YtofjodppljnlaaaGreatDoor
namespace Go.Proofs.YtofjodppljnlaaaGreatDoor
open Go.RowKit
set_option linter.unusedVariables false
set_option linter.unusedSimpArgs false
def NetR (w : World) (B : Nat) (M : Nat → Prop) (nb : Nat) (N : NetD) : Prop := ∃ lab tv bv nv vs, NetS w B M lab nb N tv bv nv vs
def NetGo (w wr : World) (B : Nat) (M : Nat → Prop) (nb : Nat) (N : NetD) : Prop := ∃ M', NetR wr B M' nb N ∧ Grow M M' w.heap.size wr.heap.size ∧ Upd M w wr
theorem NetR.pure {w w2 : World} {B : Nat} {M : Nat → Prop} {nb : Nat} {N : NetD} (h : NetR w B M nb N) (hu : Pure w w2) : NetR w2 B M nb N := by
  obtain ⟨lab, tv, bv, nv, vs, h⟩ := h
  exact ⟨lab, tv, bv, nv, vs, h.pure hu⟩
theorem NetR.low {w : World} {B : Nat} {M : Nat → Prop} {nb : Nat} {N : NetD} (h : NetR w B M nb N) : ∀ k, M k → B ≤ k ∧ k < w.heap.size := by
  obtain ⟨lab, tv, bv, nv, vs, h⟩ := h
  exact h.low
theorem NetGo.refl {w : World} {B : Nat} {M : Nat → Prop} {nb : Nat} {N : NetD} (h : NetR w B M nb N) : NetGo w w B M nb N := ⟨M, h, ⟨fun _ h => h, fun _ h => .inl h⟩, Upd.refl _ _⟩
theorem Grow.comp {w w1 w2 : World} {M M1 M2 : Nat → Prop} (g1 : Grow M M1 w.heap.size w1.heap.size) (u1 : Upd M w w1) (g2 : Grow M1 M2 w1.heap.size w2.heap.size) (u2 : Upd M1 w1 w2) : Grow M M2 w.heap.size w2.heap.size ∧ Upd M w w2 :=
  ⟨⟨fun k hk => g2.1 k (g1.1 k hk), fun k hk => by
    rcases g2.2 k hk with h | h
    · rcases g1.2 k h with h | h
      · exact .inl h
      · exact .inr ⟨h.1, Nat.lt_of_lt_of_le h.2 u2.size⟩
    · exact .inr ⟨Nat.le_trans u1.size h.1, h.2⟩⟩, Upd.trans u1 u2 (fun k hk h => (g1.2 k h).elim id (fun h => absurd hk (by omega)))⟩
theorem Grow.new {M : Nat → Prop} {lo hi a b : Nat} (h1 : lo ≤ a) (h2 : b ≤ hi) : Grow M (MNew M a b) lo hi := ⟨fun _ h => .inl h, fun k h => h.elim .inl (fun h => .inr ⟨by omega, by omega⟩)⟩
theorem Grow.same {M : Nat → Prop} {lo hi : Nat} : Grow M M lo hi := ⟨fun _ h => h, fun _ h => .inl h⟩
theorem NetGo.trans {w w1 w2 : World} {B : Nat} {M : Nat → Prop} {nb : Nat} {N N' : NetD} (h : NetGo w w1 B M nb N) (h2 : ∀ M', NetR w1 B M' nb N → NetGo w1 w2 B M' nb N') : NetGo w w2 B M nb N' := by
  obtain ⟨M1, r1, g1, u1⟩ := h
  obtain ⟨M2, r2, g2, u2⟩ := h2 M1 r1
  obtain ⟨g, u⟩ := Grow.comp g1 u1 g2 u2
  exact ⟨M2, r2, g, u⟩
def NetD.wt (N : NetD) : Nat := N.nx.length + (N.tos.map List.length).sum
theorem sum_mod (fs : List (List Int)) (a : Nat) (y : List Int) : ((fs.modify a (· ++ y)).map List.length).sum ≤ (fs.map List.length).sum + y.length := by
  induction fs generalizing a with
  | nil => cases a <;> simp
  | cons x r ih =>
    cases a with
    | zero => simp; omega
    | succ a => have := ih a; simp at this ⊢; omega
theorem NetD.wt_place (N : NetD) : N.place.wt = N.wt + 1 := by unfold wt place; simp; omega
theorem NetD.wt_free (N : NetD) (a b : Nat) : (N.free a b).wt ≤ N.wt + 1 := by have := sum_mod N.tos a [(b : Int)]; simp only [List.length_singleton] at this; show N.nx.length + ((N.tos.modify a (· ++ [(b : Int)])).map List.length).sum ≤ N.nx.length + (N.tos.map List.length).sum + 1; omega
theorem NetD.wt_setBy (N : NetD) (c : Nat) (l : List Int) (b : Nat) : (N.setBy c l b).wt = N.wt := by unfold wt setBy; simp
theorem mem_le_sum {x : Nat} : ∀ {l : List Nat}, x ∈ l → x ≤ l.sum
  | y :: r, h => by
    rcases List.mem_cons.1 h with rfl | h
    · simp
    · have := mem_le_sum h; simp; omega
theorem NetD.wt_row {N : NetD} {a : Nat} {x : List Int} (h : N.tos[a]? = some x) : x.length ≤ N.wt := by
  have h1 : x.length ∈ N.tos.map List.length := List.mem_map.2 ⟨x, List.mem_of_getElem? h, rfl⟩
  have := mem_le_sum h1
  unfold wt; omega
theorem NetS.keep {w w2 : World} {B : Nat} {M : Nat → Prop} {lab : Nat → Nat} {nb : Nat} {N : NetD} {tv bv nv v : Value} {vs : List Value} {j : Nat} (h : NetS w B M lab nb N tv bv nv vs) (hU : Upd (fun k => v.ownBlock = some k) w w2) (hj : v.ownBlock = some nb → lab nb = j + 1) :
    nb < w2.heap.size ∧ (∀ i, w2.frozen? ⟨nb, i, none⟩ = false) ∧ w2.cell? ⟨nb, 0, none⟩ = some tv ∧ w2.cell? ⟨nb, 1, none⟩ = some bv ∧ w2.cell? ⟨nb, 2, none⟩ = some nv := by
  have hb : w2.heap[nb]? = some (.cells #[tv, bv, nv] 229 (0, 0)) := by rw [hU.block nb (h.low nb h.nbM.1).2 (fun e => by have := hj e; have := h.nbM.2; omega)]; exact h.blk
  refine ⟨(Array.getElem?_eq_some_iff.1 hb).1, fun i => by simp [World.frozen?, hb], ?_, ?_, ?_⟩ <;> (unfold World.cell?; simp only [hb]; rfl)
set_option maxRecDepth 100000 in
set_option maxHeartbeats 4000000 in
theorem nplc_calls {w : World} {B : Nat} {M : Nat → Prop} {nb : Nat} {N : NetD} (h : NetR w B M nb N) (ht : N.tos.length = N.nx.length) (hby : N.bys.length = N.nx.length) (hb : N.nx.length ≤ 1048576) :
    Calls Tryz.prog 170 #[.pointer (some ⟨nb, 0, none⟩)] w fun r w' => r = .returned (.int .i64 N.nx.length) ∧ NetGo w w' B M nb N.place := by
  obtain ⟨lab, tv, bv, nv, vs, hs⟩ := h
  have HS := As.mk hs
  have q0 : w.cell? ⟨nb, 0, none⟩ = some tv := by unfold World.cell?; simp only [hs.blk]; rfl
  have f0 : w.frozen? ⟨nb, 0, none⟩ = false := by simp [World.frozen?, hs.blk]
  obtain ⟨i0, hi, hz0, hz1, hz2⟩ := info_parts slice_info
  have hnl := (hs.low nb hs.nbM.1).2
  have HT := As.mk ht
  have HBY := As.mk hby
  have hb1 : N.tos.length ≤ 1048576 := by omega
  have hb2 : N.bys.length ≤ 1048576 := by omega
  clear hs ht hby
  go_enter Tryz.func170, Tryz.ntmps170
  go_wp2_with (at_builtin; refine wpList_append_own_at _ rfl _ _ 196 rfl 0 83 i0 (.slice none 0 0) 1 24 Tryz.underlying196 hi hz0 hz1 hz2 rfl (by decide) _ _ _ rfl (HS.out.ct.own.alloc _) ⟨w.heap.size, 0, none⟩ 1 1 [.slice none 0 0] rfl rfl (cell_one_new _ _ _) (by simp [Value.oneCell']) (by unfold maxLen; omega) (by omega) (Nat.zero_le _) ?_; intro v1 w1 ho1 hg1 _ hat1; obtain ⟨g1, cap1, rfl, _, hg1l⟩ := ho1.form (by omega); apply As.out)
  refine ⟨?_⟩
  have hU1 : Upd (fun k => tv.ownBlock = some k) w w1 := Upd.grown1 (World.grownBy.trans (World.grownBy_alloc w _ _) hg1) (fun k hk => hk)
  obtain ⟨hs1, hu1⟩ := NetS.to1 HS.out ho1 hU1 (hat1.imp id (fun h => ⟨_, h, by simp⟩))
  have hk1 := NetS.keep HS.out hU1 (fun e => (HS.out.ct.inM nb e).2)
  have f1 : w1.frozen? ⟨nb, 0, none⟩ = false := hk1.2.1 0
  have f2 : w1.frozen? ⟨nb, 1, none⟩ = false := hk1.2.1 1
  have f3 : w1.frozen? ⟨nb, 2, none⟩ = false := hk1.2.1 2
  have q1 : w1.cell? ⟨nb, 1, none⟩ = some bv := hk1.2.2.2.1
  have q10 : w1.cell? ⟨nb, 0, none⟩ = some tv := hk1.2.2.1
  have hnl1 := hk1.1
  have HS1 := As.mk hs1
  have HU1 := As.mk hu1
  have HSZ := As.mk hU1.size
  clear hs1 hu1 hk1 ho1 hg1 hat1 hU1 q0 f0
  go_wp2_with (at_builtin; refine Rp.append_row intR.slice (c := 1) ((HS1.out.pure ((Upd.refl _ _).alloc _)).cb.own) (Rp.row'_one (d := intR.slice) (F := fun k => k < B) (x := []) (cs := [.slice none 0 0]) ⟨none, 0, rfl, Nat.zero_le _, Rp.row_nil _ _ _ _⟩ (heap_alloc_new _ (.cells #[.slice none 0 0] 83))) (fun k hk _ he => by have := (HS1.out.low k (HS1.out.cb.inM k he.symm).1).1; omega) (by rfl) _ _ 196 (.slice none 0 0) 24 (by rfl) Tryz.underlying196 slice_info rfl (by decide) (by decide) (by rfl) (by simp [Act.eval, World.setCell]) (by simp; omega) ?_; intro v2 w2 ho2 hu2 hat2; obtain ⟨A2, c2, rfl, _, _⟩ := Rp.own_slice ho2; apply As.out)
  refine ⟨?_⟩
  have hPa := HS1.out.pure ((Upd.refl _ _).alloc (.cells #[.slice none 0 0] 83))
  obtain ⟨hs2, hu2'⟩ := NetS.by1 hPa (Rp.own_fp ho2 (fun k hk => by
    rcases hk with ⟨h1 | h1, h2⟩ | h1 | h1
    · exact .inl h1
    · exact absurd h1.symm h2
    · exact .inl h1
    · exact .inr h1)) hu2 hat2
  have e2 : (N.bys ++ [([] : List Int)]).length = N.bys.length + 1 := by simp
  simp only [e2] at hs2 hu2'
  have hk2 := NetS.keep hPa hu2 (fun e => (hPa.cb.inM nb e).2)
  have f4 : w2.frozen? ⟨nb, 1, none⟩ = false := hk2.2.1 1
  have f5 : w2.frozen? ⟨nb, 2, none⟩ = false := hk2.2.1 2
  have q4 : w2.cell? ⟨nb, 1, none⟩ = some bv := hk2.2.2.2.1
  have q5 : w2.cell? ⟨nb, 2, none⟩ = some nv := hk2.2.2.2.2
  have hnl2 := hk2.1
  have HS2 := As.mk hs2
  have HU2 := As.mk hu2'
  have HSZ2 := As.mk hu2.size
  clear hs2 hu2' hk2 ho2 hat2 hu2 hPa q1 q10 f1 f2 f3
  go_wp2_with (at_builtin; refine Rp.append_row intR (c := 1) ((HS2.out.pure ((Upd.refl _ _).alloc _)).cn.own) (Rp.row'_one (d := intR) (F := fun _ => False) (x := -1) (cs := [.int .i64 (-1)]) rfl (heap_alloc_new _ (.cells #[.int .i64 (-1)] 3))) (fun _ h => h.elim) (by rfl) _ _ 83 (.int .i64 0) 8 (by rfl) Tryz.underlying83 int_info rfl (by decide) (by decide) (by rfl) (by simp [Act.eval, World.setCell]) (by show (N.nx.length + 1) * 8 ≤ _; omega) ?_; intro v3 w3 ho3 hu3 hat3; obtain ⟨A3, c3, rfl, _, _⟩ := Rp.own_slice ho3; apply As.out)
  refine ⟨?_⟩
  have hPa := HS2.out.pure ((Upd.refl _ _).alloc (.cells #[.int .i64 (-1)] 3))
  obtain ⟨hs3, hu3'⟩ := NetS.nx1 hPa ho3 hu3 hat3
  have e3 : (N.nx ++ [(-1 : Int)]).length = N.nx.length + 1 := by simp
  simp only [e3] at hs3 hu3'
  have hk3 := NetS.keep hPa hu3 (fun e => (hPa.cn.inM nb e).2)
  have f5 : w3.frozen? ⟨nb, 2, none⟩ = false := hk3.2.1 2
  have q5 : w3.cell? ⟨nb, 2, none⟩ = some nv := hk3.2.2.2.2
  have hnl3 := hk3.1
  have HS3 := As.mk hs3
  have HU3 := As.mk hu3'
  have HSZ3 := As.mk hu3.size
  clear hs3 hu3' hk3 ho3 hat3 hu3 hPa q4 f4
  have hl3 : IntKind.i64.wrap ((N.nx.length : Int) + 1 - 1) = N.nx.length := by rw [show (N.nx.length : Int) + 1 - 1 = N.nx.length by omega]; exact IntWalk.i64_in _ (by omega)
  go_wp2
  go_ret
  refine ⟨by simp [hl3], ?_⟩
  obtain ⟨a1, b1⟩ := Grow.comp (Grow.new (b := w1.heap.size) (Nat.le_refl _) (by simp [World.setCell])) HU1.out Grow.same ((Upd.refl _ _).alloc (.cells #[.slice none 0 0] 83))
  obtain ⟨a2, b2⟩ := Grow.comp a1 b1 (Grow.new (b := w2.heap.size) (Nat.le_refl _) (by simp [World.setCell])) HU2.out
  obtain ⟨a3, b3⟩ := Grow.comp a2 b2 Grow.same ((Upd.refl _ _).alloc (.cells #[.int .i64 (-1)] 3))
  obtain ⟨a4, b4⟩ := Grow.comp a3 b3 (Grow.new (b := w3.heap.size) (Nat.le_refl _) (by simp [World.setCell])) HU3.out
  exact ⟨_, ⟨_, _, _, _, _, HS3.out⟩, a4, b4⟩
end Go.Proofs.YtofjodppljnlaaaGreatDoor
namespace Go.Proofs.YtofjodppljnlaaaGreatDoor
open Go.RowKit
set_option linter.unusedVariables false
set_option linter.unusedSimpArgs false
set_option maxRecDepth 100000 in
set_option maxHeartbeats 4000000 in
theorem free_calls {w : World} {B : Nat} {M : Nat → Prop} {nb : Nat} {N : NetD} (h : NetR w B M nb N) {a b : Nat} (ha : a < N.tos.length) (ht : N.tos.length ≤ 1048576) (hb : N.wt ≤ 1048576) :
    Calls Tryz.prog 200 #[.pointer (some ⟨nb, 0, none⟩), .int .i64 a, .int .i64 b] w fun r w' => r = .returned (.tuple #[]) ∧ NetGo w w' B M nb (N.free a b) := by
  obtain ⟨lab, tv, bv, nv, vs, hs⟩ := h
  obtain ⟨y, hy⟩ : ∃ y, N.tos[a]? = some y := ⟨_, List.getElem?_eq_getElem ha⟩
  have hyl : y.length ≤ 1048576 := Nat.le_trans (NetD.wt_row hy) hb
  have hvl : vs.length = N.tos.length := by simpa using hs.ct.own.1
  obtain ⟨u, hu⟩ : ∃ u, vs[a]? = some u := ⟨_, List.getElem?_eq_getElem (by omega)⟩
  obtain ⟨fb, cap, rfl, _, hfbl⟩ := hs.ct.own.form (by omega)
  have hmd : As (NetS w.drew B M lab nb N (.slice (some ⟨fb, 0, none⟩) N.tos.length cap) bv nv vs) := ⟨hs.pure ((Upd.refl _ _).drew)⟩
  obtain ⟨hou, huM⟩ := hmd.out.ct.each a u y hu hy
  have hcur : ∃ cur, w.heap[fb]? = some (.cells cur 83 (0, 0)) ∧ cur[a]? = some u := by
    rcases hs.ct.own.2 with ⟨h, _⟩ | ⟨g, cap', cur, hv, _, hg, hle, _, hcs, htake⟩
    · cases h
    · simp at hv
      obtain ⟨rfl, rfl⟩ := hv
      refine ⟨cur, hg, ?_⟩
      rw [← htake, List.getElem?_take] at hu
      split at hu
      · simpa using hu
      · cases hu
  obtain ⟨cur, hcb, hcn⟩ := hcur
  have q1 : w.cell? ⟨nb, 0, none⟩ = some (.slice (some ⟨fb, 0, none⟩) N.tos.length cap) := by unfold World.cell?; simp only [hs.blk]; rfl
  have q2 : w.cell? ⟨fb, a, none⟩ = some u := by unfold World.cell?; simp only [hcb]; exact hcn
  have q3 : w.frozen? ⟨fb, a, none⟩ = false := by simp [World.frozen?, hcb]
  have hnl := (hs.low nb hs.nbM.1).2
  have HSK : As (∀ w1, Upd (fun k => u.ownBlock = some k) w.drew w1 → w1.cell? ⟨nb, 0, none⟩ = some (.slice (some ⟨fb, 0, none⟩) N.tos.length cap) ∧ w1.cell? ⟨fb, a, none⟩ = some u ∧ w1.frozen? ⟨fb, a, none⟩ = false) := ⟨by
    intro w1 hU
    have hfbl := hs.ct.inM fb rfl
    have n1 : ¬ u.ownBlock = some nb := fun hk => by have := (huM nb hk).2; have := hs.nbM.2; omega
    have n2 : ¬ u.ownBlock = some fb := fun hk => by have := (huM fb hk).2; omega
    exact ⟨(hU.cell hnl n1).trans q1, (hU.cell (hs.low fb hfbl.1).2 n2).trans q2, (hU.frozen (hs.low fb hfbl.1).2 n2).trans q3⟩⟩
  have HOU := As.mk hou
  have HY := As.mk hy
  have HUU := As.mk hu
  have HQ := As.mk (And.intro q1 (And.intro q2 q3))
  have hnfi : (a : Int) < (N.tos.length : Int) := by omega
  have HV := As.mk hvl
  clear hy hu hou hcb hcn hs q1 q2 q3 huM hvl hb
  go_enter Tryz.func200, Tryz.ntmps200
  go_wp2
  have q2 := HQ.out.2.1
  have q2d : w.drew.cell? ⟨fb, a, none⟩ = some u := q2
  refine wp_region_T (P := Tryz.prog) (fun w' => w'.cell? ⟨nb, 0, none⟩ = some (.slice (some ⟨fb, 0, none⟩) N.tos.length cap) ∧ w'.cell? ⟨fb, a, none⟩ = some u ∧ w'.frozen? ⟨fb, a, none⟩ = false) 16 (by kernel_rfl) ?_ (fun hHeld => ?_)
  · first | exact HQ.out | exact HSK.out _ HU2.out | exact HSK.out _ ((Upd.refl _ _).alloc _)
  refine zT 0 ?_
  (try simp only [Act.put, sA, sB, sC])
  refine zT 1 ?_
  (try simp only [Act.put, sA, sB, sC])
  refine zT 2 ?_
  (try simp only [Act.put, sA, sB, sC])
  refine zT 3 ?_
  (try simp only [Act.put, sA, sB, sC])
  refine zT 4 ?_
  (try simp only [Act.put, sA, sB, sC])
  refine zT 5 ?_
  (try simp only [Act.put, sA, sB, sC])
  refine zT 6 ?_
  (try simp only [Act.put, sA, sB, sC])
  refine zT 7 ?_
  (try simp only [Act.put, sA, sB, sC])
  refine zT 8 ?_
  (try simp only [Act.put, sA, sB, sC])
  refine zT 9 ?_
  (try simp only [Act.put, sA, sB, sC])
  refine zT 10 ?_
  (try simp only [Act.put, sA, sB, sC])
  refine zT 11 ?_
  (try simp only [Act.put, sA, sB, sC])
  refine zT 12 ?_
  (try simp only [Act.put, sA, sB, sC])
  refine oT 13 (fun K hK => ?_)
  go_simp
  refine hK.out _ _ (fun _ => by first | exact HQ.out | exact HSK.out _ HU2.out | exact HSK.out _ ((Upd.refl _ _).alloc _)) (fun hHeld => ?_)
  replace hHeld := hHeld (by decide)
  clear hK K
  (try simp only [Act.put, sA, sB, sC])
  refine oT 14 (fun K hK => ?_)
  refine Rp.step_append_row intR (c := 1) (Rp.own_alloc HOU.out _) (Rp.row'_one (d := intR) (F := fun _ => False) (x := (b : Int)) (cs := [.int .i64 b]) rfl (heap_alloc_new _ (.cells #[.int .i64 b] 3))) (fun _ h => h.elim) (by rfl) _ _ 83 (.int .i64 0) 8 (by rfl) Tryz.underlying83 int_info rfl (by decide) (by decide) (by rfl) (by rfl) (by simp; omega) ?_; intro v1 w2 ho1 hu2 hat; obtain ⟨A1, c1, rfl, _, _⟩ := Rp.own_slice ho1; have HO1 := As.mk ho1; have HUA := As.mk hu2; have HU2 := As.mk (Upd.trans ((Upd.refl (fun k => u.ownBlock = some k) w.drew).alloc (.cells #[.int .i64 b] 3)) hu2 (fun k _ h => h)); have HAT := As.mk hat; obtain ⟨s1, s2, s3⟩ := HSK.out w2 HU2.out; clear ho1 hu2 hat
  refine hK.out _ _ (fun _ => by first | exact HQ.out | exact HSK.out _ HU2.out | exact HSK.out _ ((Upd.refl _ _).alloc _)) (fun hHeld => ?_)
  replace hHeld := hHeld (by decide)
  clear hK K
  (try simp only [Act.put, sA, sB, sC])
  refine zT 15 ?_
  (try simp only [Act.put, sA, sB, sC])
  refine oT 16 (fun K hK => ?_)
  go_simp
  refine hK.out _ _ (fun h => absurd rfl h) (fun hHeld => ?_)
  clear hK K
  (try simp only [Act.put, sA, sB, sC])
  refine wpAnyT_done (by kernel_rfl) ?_ _
  have hma := hmd.out.pure ((Upd.refl _ _).alloc (.cells #[.int .i64 b] 3))
  obtain ⟨hmn, hun⟩ := NetS.free1 hma HY.out HUU.out HO1.out HUA.out HAT.out
  have e2 : (y ++ [(b : Int)]).length = y.length + 1 := by simp
  rw [e2] at hmn hun
  go_wp2
  go_end0
  refine ⟨rfl, ?_⟩
  obtain ⟨a1, b1⟩ := Grow.comp (Grow.same (lo := w.heap.size)) (show Upd M w (w.drew.alloc (.cells #[.int .i64 b] 3)) from ((Upd.refl _ _).drew).alloc _) (Grow.new (b := w2.heap.size) (Nat.le_refl _) (by simp [World.setCell])) hun
  exact ⟨_, ⟨_, _, _, _, _, hmn⟩, a1, b1⟩
end Go.Proofs.YtofjodppljnlaaaGreatDoor
namespace Go.Proofs.YtofjodppljnlaaaGreatDoor
open Go.RowKit
set_option linter.unusedVariables false
set_option linter.unusedSimpArgs false
theorem cnts_len (l : List Ex) : l.length ≤ Ex.cnts l := by
  induction l with
  | nil => simp
  | cons x r ih => have := x.cnt_pos; simp only [Ex.cnts, List.length_cons]; omega
theorem count_all (N : Nat) : ∀ (e : Ex), e.cnt ≤ N → N ≤ 1048576 * 4 → ∀ (F : Nat → Prop) (A : Option Addr) (c : Nat) (w : World), exR.row w F A e.l →
    Calls Tryz.prog 196 #[e.val A c] w fun r w' => r = .returned (.int .i64 e.cnt) ∧ Pure w w' := by
  induction N with
  | zero => intro e he; have := e.cnt_pos; omega
  | succ N ih =>
    intro e he hN F A c w hr
    obtain ⟨k0, nm, l⟩ := e
    have HI := As.mk (fun (x : Ex) (hx : x.cnt ≤ N) => ih x hx (by omega))
    have HR := As.mk hr
    have hc0 : Ex.cnts l ≤ N := by simp only [Ex.cnt] at he; omega
    have hll := cnts_len l
    clear hr he ih
    go_enter Tryz.func196, Tryz.ntmps196
    go_wp2
    go_loopg [3, 4] l.length (fun g n i wr => ∃ k : Nat, k + g = l.length ∧ i = .int .i64 k ∧ n = .int .i64 ((1 + Ex.cnts (l.take k) : Nat) : Int) ∧ As (BoxE w.heap.size k0 nm l.length A c wr) ∧ As (Pure w wr))
    case atStart => exact ⟨0, by omega, rfl, rfl, ⟨BoxE.new _ _ _ _ _ _ _⟩, ⟨(Upd.refl _ _).alloc _⟩⟩
    case round =>
      obtain ⟨k, hk, rfl, rfl, HB, HP⟩ := hrel
      obtain ⟨q0, q1, q2, q3⟩ := HB.out
      by_cases hlt : k < l.length
      · obtain ⟨x, hx⟩ : ∃ x, l[k]? = some x := ⟨_, List.getElem?_eq_getElem hlt⟩
        obtain ⟨b, o, A1, c1, rfl, hF, hbl, c0, c1', c2, hle1, hrow1⟩ := ex_at (Rp.row_pure HR.out HP.out) hx
        obtain ⟨g1, rfl⟩ : ∃ m, gk = m + 1 := ⟨gk - 1, by omega⟩
        have hx1 : x.cnt ≤ N := Nat.le_trans (Ex.cnt_mem (List.mem_of_getElem? hx)) hc0
        have hct := Ex.cnts_take l k
        have hct2 := Ex.cnts_take l (k + 1)
        have H1 := As.mk (Ex.cnts_succ hx)
        rw [H1.out] at hct2
        have hw1 : IntKind.i64.wrap (((1 + Ex.cnts (l.take k) : Nat) : Int) + (x.cnt : Int)) = ((1 + Ex.cnts (l.take k) : Nat) : Int) + (x.cnt : Int) := IntWalk.i64_in _ (by omega)
        have HR1 := As.mk hrow1
        have HK := As.mk hk
        have HBB := HB
        clear hrow1 hk hx
        go_wp2_with (go_at_call 196; refine (HI.out x hx1 _ _ c1 _ HR1.out).mono ?_; rintro e w1 ⟨rfl, hu⟩; have HU := As.mk hu; clear hu)
        go_roundg g1
        case measure => omega
        case rel => exact ⟨k + 1, by have := HK.out; omega, by go_num, by rw [H1.out]; go_num, ⟨HBB.out.pure HU.out⟩, ⟨HP.out.trans HU.out (fun _ _ h => h)⟩⟩
      · have hkl : k = l.length := by omega
        subst hkl
        rw [List.take_length]
        go_wp2
        go_ret
        exact ⟨rfl, HP.out⟩
theorem deep_all (N : Nat) : ∀ (e : Ex), e.cnt ≤ N → N ≤ 1048576 * 4 → ∀ (F : Nat → Prop) (A : Option Addr) (c : Nat) (w : World), exR.row w F A e.l →
    Calls Tryz.prog 197 #[e.val A c] w fun r w' => r = .returned (.int .i64 e.dep) ∧ Pure w w' := by
  induction N with
  | zero => intro e he; have := e.cnt_pos; omega
  | succ N ih =>
    intro e he hN F A c w hr
    obtain ⟨k0, nm, l⟩ := e
    have HI := As.mk (fun (x : Ex) (hx : x.cnt ≤ N) => ih x hx (by omega))
    have HR := As.mk hr
    have hc0 : Ex.cnts l ≤ N := by simp only [Ex.cnt] at he; omega
    have hd0 : Ex.deps l ≤ Ex.cnts l := Ex.deps_le_cnts l
    have hll := cnts_len l
    clear hr he ih
    go_enter Tryz.func197, Tryz.ntmps197
    go_wp2
    go_loopg [3, 4] l.length (fun g d i wr => ∃ k : Nat, k + g = l.length ∧ i = .int .i64 k ∧ d = .int .i64 ((Ex.deps (l.take k) : Nat) : Int) ∧ As (BoxE w.heap.size k0 nm l.length A c wr) ∧ As (Pure w wr))
    case atStart => exact ⟨0, by omega, rfl, rfl, ⟨BoxE.new _ _ _ _ _ _ _⟩, ⟨(Upd.refl _ _).alloc _⟩⟩
    case round =>
      obtain ⟨k, hk, rfl, rfl, HB, HP⟩ := hrel
      obtain ⟨q0, q1, q2, q3⟩ := HB.out
      by_cases hlt : k < l.length
      · obtain ⟨x, hx⟩ : ∃ x, l[k]? = some x := ⟨_, List.getElem?_eq_getElem hlt⟩
        obtain ⟨b, o, A1, c1, rfl, hF, hbl, c0, c1', c2, hle1, hrow1⟩ := ex_at (Rp.row_pure HR.out HP.out) hx
        obtain ⟨g1, rfl⟩ : ∃ m, gk = m + 1 := ⟨gk - 1, by omega⟩
        have hx1 : x.cnt ≤ N := Nat.le_trans (Ex.cnt_mem (List.mem_of_getElem? hx)) hc0
        have hct := Ex.cnts_take l k
        have hdt := Ex.deps_le_cnts (l.take k)
        have hxd := Ex.dep_le_cnt x
        have H2 := As.mk (Ex.deps_succ hx)
        have HR1 := As.mk hrow1
        have HK := As.mk hk
        have HBB := HB
        clear hrow1 hk hx
        go_wp2_with (go_at_call 197; refine (HI.out x hx1 _ _ c1 _ HR1.out).mono ?_; rintro e w1 ⟨rfl, hu⟩; have HU := As.mk hu; clear hu)
        all_goals
          go_roundg g1
          case measure => omega
          case rel => exact ⟨k + 1, by have := HK.out; omega, by go_num, by rw [H2.out]; congr 1; omega, ⟨HBB.out.pure HU.out⟩, ⟨HP.out.trans HU.out (fun _ _ h => h)⟩⟩
      · have hkl : k = l.length := by omega
        subst hkl
        rw [List.take_length]
        have hw1 : IntKind.i64.wrap (((Ex.deps l : Nat) : Int) + 1) = ((Ex.deps l : Nat) : Int) + 1 := IntWalk.i64_in _ (by omega)
        go_wp2
        go_ret
        refine ⟨ret_int ?_, HP.out⟩
        simp only [Ex.dep, Int.natCast_add, Int.add_comm]
        rfl
set_option maxRecDepth 100000 in
set_option maxHeartbeats 4000000 in
theorem Letters_calls (s : ByteArray) (w : World) (hs : s.size ≤ 1048576 * 4) : Calls Tryz.prog 163 #[.string s] w fun r w' => r = .returned (.bool (nameB s)) ∧ Pure w w' := by
  have hfits : s.data.size = s.size := rfl
  go_enter Tryz.func163, Tryz.ntmps163
  go_wp2
  go_loopg [3] s.size (fun g i wr => ∃ k : Nat, k + g = s.size ∧ i = .int .i64 k ∧ As ((s.data.toList.take k).all lettB = true) ∧ As (wr = w))
  case atStart => exact ⟨0, by omega, rfl, ⟨by simp⟩, ⟨rfl⟩⟩
  case round =>
    obtain ⟨k, hk, rfl, HA, HW⟩ := hrel
    obtain rfl := HW.out
    by_cases hlt : k < s.size
    · obtain ⟨g1, rfl⟩ : ∃ m, gk = m + 1 := ⟨gk - 1, by omega⟩
      have hlt' : k < s.data.size := hlt
      have hx : s.data.toList[k]? = some s.data[k] := by simp [hlt']
      have HT : As ((s.data.toList.take (k + 1)).all lettB = ((s.data.toList.take k).all lettB && lettB s.data[k])) := ⟨by rw [List.take_add_one, hx, List.all_append]; simp⟩
      rw [HA.out] at HT
      have HN : As (lettB s.data[k] = false → nameB s = false) := ⟨fun h => by
        have : s.data.toList.all lettB = false := by
          rw [List.all_eq_false]
          exact ⟨_, List.mem_of_getElem? hx, by simp [h]⟩
        simp [nameB, this]⟩
      have hget : s.data[k]? = some s.data[k] := by simp [hlt']
      have hget2 : s.toList[k]? = some s.data[k] := by rw [ByteArray.toList_eq]; exact hx
      generalize hc : s.data[k] = c at *
      have hsk : s[k]'hlt = c := hc
      have HK := As.mk hk
      have h256 := c.toNat_lt
      clear hk hx hc hget hget2
      by_cases h1 : c.toNat < 97
      · have hn := As.mk (HN.out (by simp [lettB]; omega))
        have e1 : ((c.toNat : Int) < 97) := by omega
        go_wp2
        go_ret
        exact ⟨ret_bool hn.out.symm, Upd.refl _ _⟩
      · by_cases h2 : 122 < c.toNat
        · have hn := As.mk (HN.out (by simp [lettB]; omega))
          have e1 : ¬ ((c.toNat : Int) < 97) := by omega
          have e2 : ((c.toNat : Int) > 122) := by omega
          go_wp2
          go_ret
          exact ⟨ret_bool hn.out.symm, Upd.refl _ _⟩
        · have HC : As (lettB c = true) := ⟨by simp [lettB]; omega⟩
          have e1 : ¬ ((c.toNat : Int) < 97) := by omega
          have e2 : ¬ ((c.toNat : Int) > 122) := by omega
          go_wp2
          go_roundg g1
          case measure => omega
          case rel => exact ⟨k + 1, by have := HK.out; omega, by go_num, ⟨by rw [HT.out, HC.out]; rfl⟩, ⟨rfl⟩⟩
    · have hkl : k = s.size := by omega
      have HA' : As (s.data.toList.all lettB = true) := ⟨by have := HA.out; rwa [List.take_of_length_le (by simp; omega)] at this⟩
      subst hkl
      clear HA
      go_wp2
      go_ret
      refine ⟨ret_bool ?_, Upd.refl _ _⟩
      rw [nameB, HA'.out, Bool.true_and, empty_is]
      by_cases h : s.size = 0 <;> simp [h]
mutual
/-- A tree is right, as the reference says it. -/
def Ex.okR : Ex → Bool
  | .mk k nm l => Ex.oksR l && (if k = 0 then decide (nm.size = 0) && decide (l.length = 0) else if k = 1 then nameB nm && decide (l.length = 0)
      else if k = 4 ∨ k = 5 ∨ k = 6 then decide (nm.size = 0) && decide (l.length = 1)
      else if k = 2 ∨ k = 3 then l.all (fun x => decide (x.k ≠ k)) && (decide (nm.size = 0) && decide (2 ≤ l.length)) else false)
def Ex.oksR : List Ex → Bool
  | [] => true
  | x :: r => (decide (x.k ≠ 0) && Ex.okR x) && Ex.oksR r
end
theorem Ex.oksR_all (l : List Ex) : Ex.oksR l = l.all (fun x => decide (x.k ≠ 0) && Ex.okR x) := by
  induction l with
  | nil => rfl
  | cons x r ih => simp [Ex.oksR, ih]
def Ex.oksL (i : Int) (l : List Ex) : Bool := if i = 2 ∨ i = 3 then Ex.oksR l && l.all (fun x => decide (x.k ≠ i)) else Ex.oksR l
mutual
theorem Ex.okR_okB : ∀ (e : Ex) (i : Int), 0 ≤ i → Ex.okB i e = (Ex.okR e && (decide (i = 0) || decide (e.k ≠ 0)) && !(decide (e.k = 2 ∨ e.k = 3) && decide (i = e.k)))
  | .mk k nm l, i, hi => by
    have hl := Ex.oksR_oksB l k
    show Ex.okB i (.mk k nm l) = (Ex.okR (.mk k nm l) && (decide (i = 0) || decide (k ≠ 0)) && !(decide (k = 2 ∨ k = 3) && decide (i = k)))
    have hnil : l.length = 0 → l = [] := List.eq_nil_of_length_eq_zero
    by_cases h1 : k = 1
    · have e1 : Ex.okB i (.mk k nm l) = (nameB nm && decide (l.length = 0)) := by rw [Ex.okB, if_pos h1]
      have e2 : Ex.okR (.mk k nm l) = (Ex.oksR l && (nameB nm && decide (l.length = 0))) := by rw [Ex.okR, if_neg (by omega), if_pos h1]
      rw [e1, e2]
      by_cases hz : l.length = 0
      · rw [hnil hz, Ex.oksR]
        simp [h1]
      · simp [hz]
    · by_cases h0 : k = 0
      · have e2 : Ex.okR (.mk k nm l) = (Ex.oksR l && (decide (nm.size = 0) && decide (l.length = 0))) := by rw [Ex.okR, if_pos h0]
        rw [e2]
        by_cases hi0 : i = 0
        · have e1 : Ex.okB i (.mk k nm l) = (Ex.oksB k l && decide (nm.size = 0) && decide (leastE k ≤ l.length) && decide (l.length ≤ mostE k l.length)) := by rw [Ex.okB, if_neg h1, if_neg (by omega)]
          have e3 : leastE k = 0 := by unfold leastE; rw [if_pos h0]
          have e4 : mostE k l.length = 0 := by unfold mostE; rw [if_pos h0]
          rw [e1, e3, e4]
          by_cases hz : l.length = 0
          · rw [hnil hz, Ex.oksR, Ex.oksB]
            simp [hi0, h0]
          · have : ¬ l.length ≤ 0 := by omega
            simp [hz, this]
        · have e1 : Ex.okB i (.mk k nm l) = false := by rw [Ex.okB, if_neg h1, if_pos (by omega)]
          rw [e1]
          simp [hi0, h0]
      · by_cases h23 : k = 2 ∨ k = 3
        · have e2 : Ex.okR (.mk k nm l) = (Ex.oksR l && (l.all (fun x => decide (x.k ≠ k)) && (decide (nm.size = 0) && decide (2 ≤ l.length)))) := by rw [Ex.okR, if_neg h0, if_neg h1, if_neg (by omega), if_pos h23]
          rw [e2]
          by_cases hik : i = k
          · have e1 : Ex.okB i (.mk k nm l) = false := by rw [Ex.okB, if_neg h1, if_pos (by omega)]
            rw [e1]
            simp [h23, hik]
          · have e1 : Ex.okB i (.mk k nm l) = (Ex.oksB k l && decide (nm.size = 0) && decide (leastE k ≤ l.length) && decide (l.length ≤ mostE k l.length)) := by rw [Ex.okB, if_neg h1, if_neg (by omega)]
            have e3 : leastE k = 2 := by unfold leastE; rw [if_neg h0, if_pos h23]
            have e4 : mostE k l.length = l.length := by unfold mostE; rw [if_neg h0, if_pos h23]
            have e5 : Ex.oksL k l = (Ex.oksR l && l.all (fun x => decide (x.k ≠ k))) := by unfold Ex.oksL; rw [if_pos h23]
            have e6 : decide (l.length ≤ l.length) = true := by simp
            have e7 : decide (i = k) = false := by simp [hik]
            have e8 : decide (k ≠ 0) = true := by simp [h0]
            rw [e1, e3, e4, hl (by omega), e5, e6, e7, e8, Bool.and_false, Bool.or_true, Bool.not_false, Bool.and_true, Bool.and_true, Bool.and_true, Bool.and_assoc, Bool.and_assoc]
        · by_cases h4 : k = 4 ∨ k = 5 ∨ k = 6
          · have e2 : Ex.okR (.mk k nm l) = (Ex.oksR l && (decide (nm.size = 0) && decide (l.length = 1))) := by rw [Ex.okR, if_neg h0, if_neg h1, if_pos h4]
            have e1 : Ex.okB i (.mk k nm l) = (Ex.oksB k l && decide (nm.size = 0) && decide (leastE k ≤ l.length) && decide (l.length ≤ mostE k l.length)) := by rw [Ex.okB, if_neg h1, if_neg (by omega)]
            have e3 : leastE k = 1 := by unfold leastE; rw [if_neg h0, if_neg h23]
            have e4 : mostE k l.length = 1 := by unfold mostE; rw [if_neg h0, if_neg h23]
            have e5 : Ex.oksL k l = Ex.oksR l := by unfold Ex.oksL; rw [if_neg h23]
            have e6 : (decide (1 ≤ l.length) && decide (l.length ≤ 1)) = decide (l.length = 1) := by
              rw [Bool.eq_iff_iff]; simp; omega
            have e7 : decide (k = 2 ∨ k = 3) = false := by simp [h23]
            have e8 : decide (k ≠ 0) = true := by simp [h0]
            rw [e1, e2, e3, e4, hl (by omega), e5, e7, e8, Bool.false_and, Bool.or_true, Bool.not_false, Bool.and_true, Bool.and_true, Bool.and_assoc, Bool.and_assoc, e6]
          · have e1 : Ex.okB i (.mk k nm l) = false := by rw [Ex.okB, if_neg h1, if_pos (by omega)]
            have e2 : Ex.okR (.mk k nm l) = (Ex.oksR l && false) := by rw [Ex.okR, if_neg h0, if_neg h1, if_neg h4, if_neg h23]
            rw [e1, e2]
            simp
theorem Ex.oksR_oksB : ∀ (l : List Ex) (i : Int), 0 < i → Ex.oksB i l = Ex.oksL i l
  | [], i, hi => by rw [Ex.oksB]; unfold Ex.oksL; rw [Ex.oksR]; split <;> rfl
  | x :: r, i, hi => by
    rw [Ex.oksB, Ex.okR_okB x i (by omega), Ex.oksR_oksB r i hi]
    unfold Ex.oksL
    have h0 : decide (i = 0) = false := by simp; omega
    rw [h0, Bool.false_or, Ex.oksR]
    by_cases h23 : i = 2 ∨ i = 3
    · rw [if_pos h23, if_pos h23, List.all_cons]
      have e : (!(decide (x.k = 2 ∨ x.k = 3) && decide (i = x.k))) = decide (x.k ≠ i) := by
        rw [Bool.eq_iff_iff]; simp; omega
      rw [e]
      cases Ex.okR x <;> cases decide (x.k ≠ 0) <;> cases decide (x.k ≠ i) <;> cases Ex.oksR r <;> rfl
    · rw [if_neg h23, if_neg h23]
      have e : (!(decide (x.k = 2 ∨ x.k = 3) && decide (i = x.k))) = true := by
        simp; omega
      rw [e]
      cases Ex.okR x <;> cases decide (x.k ≠ 0) <;> cases Ex.oksR r <;> rfl
end
theorem one_up5 {w V : World} {X : Obj} (h : Pure (w.alloc X) V) : V.heap[w.heap.size]? = some X ∧ Pure w V :=
  ⟨(h.block w.heap.size (by simp) (fun h => h)).trans (heap_alloc_new w X), (Upd.alloc1 _ _ _).trans h (fun _ _ h => h)⟩
theorem lt5 {w : World} {k : Nat} {o : Obj} (h : w.heap[k]? = some o) : k < w.heap.size := (Array.getElem?_eq_some_iff.1 h).1
theorem cells3r5 {w : World} {b : Nat} {x0 x1 x2 : Value} {t : TypeId} (h : w.heap[b]? = some (.cells #[x0, x1, x2] t (0, 0))) :
    (w.cell? ⟨b, 0, none⟩ = some x0 ∧ w.cell? ⟨b, 1, none⟩ = some x1 ∧ w.cell? ⟨b, 2, none⟩ = some x2) ∧ b < w.heap.size :=
  ⟨⟨by unfold World.cell?; simp only [h]; rfl, by unfold World.cell?; simp only [h]; rfl, by unfold World.cell?; simp only [h]; rfl⟩, lt5 h⟩
theorem Ex.oksR_take {l : List Ex} {k : Nat} {x : Ex} (hx : l[k]? = some x) : Ex.oksR (l.take (k + 1)) = (Ex.oksR (l.take k) && (decide (x.k ≠ 0) && Ex.okR x)) := by
  rw [List.take_add_one, hx, Ex.oksR_all, Ex.oksR_all, List.all_append]
  simp
theorem Ex.oksR_mem {l : List Ex} {x : Ex} (hx : x ∈ l) (h : (decide (x.k ≠ 0) && Ex.okR x) = false) : Ex.oksR l = false := by
  rw [Ex.oksR_all, List.all_eq_false]
  exact ⟨x, hx, by rw [h]; simp⟩
set_option maxRecDepth 100000 in
set_option maxHeartbeats 4000000 in
theorem right5_all (N : Nat) : ∀ (e : Ex), e.wt ≤ N → N ≤ 1048576 * 4 → ∀ (F : Nat → Prop) (A : Option Addr) (c : Nat) (w : World), exR.row w F A e.l →
    Calls Tryz.prog 198 #[e.val A c] w fun r w' => r = .returned (.bool e.okR) ∧ Pure w w' := by
  induction N with
  | zero => intro e he; have := e.wt_pos; omega
  | succ N ih =>
    intro e he hN F A c w hr
    obtain ⟨k0, nm, l⟩ := e
    have HI := As.mk (fun (x : Ex) (hx : x.wt ≤ N) => ih x hx (by omega))
    have HR := As.mk hr
    have hc0 : Ex.wts l ≤ N := by simp only [Ex.wt] at he; omega
    have hs0 : nm.size ≤ 1048576 * 4 := by simp only [Ex.wt] at he; omega
    have hll := Ex.wts_len l
    clear hr he ih
    go_enter Tryz.func198, Tryz.ntmps198
    go_wp2
    go_loopg [3] l.length (fun g i wr => ∃ k : Nat, k + g = l.length ∧ i = .int .i64 k ∧ As (Ex.oksR (l.take k) = true) ∧ As (BoxE w.heap.size k0 nm l.length A c wr) ∧ As (Pure w wr))
    case atStart => exact ⟨0, by omega, rfl, ⟨by simp [Ex.oksR]⟩, ⟨BoxE.new _ _ _ _ _ _ _⟩, ⟨(Upd.refl _ _).alloc _⟩⟩
    case round =>
      obtain ⟨k, hk, rfl, HA, HB, HP⟩ := hrel
      obtain ⟨q0, q1, q2, q3⟩ := HB.out
      by_cases hlt : k < l.length
      · obtain ⟨x, hx⟩ : ∃ x, l[k]? = some x := ⟨_, List.getElem?_eq_getElem hlt⟩
        obtain ⟨b, o, A1, c1, rfl, hF, hbl, c0, c1', c2, hle1, hrow1⟩ := ex_at (Rp.row_pure HR.out HP.out) hx
        obtain ⟨g1, rfl⟩ : ∃ m, gk = m + 1 := ⟨gk - 1, by omega⟩
        have hx1 : x.wt ≤ N := Nat.le_trans (Ex.wt_mem (List.mem_of_getElem? hx)) hc0
        have HT := As.mk (Ex.oksR_take hx)
        rw [HA.out, Bool.true_and] at HT
        have HM := As.mk (fun (h : (decide (x.k ≠ 0) && Ex.okR x) = false) => (by rw [Ex.okR, Ex.oksR_mem (List.mem_of_getElem? hx) h, Bool.false_and] : Ex.okR (.mk k0 nm l) = false))
        have HR1 := As.mk hrow1
        have HK := As.mk hk
        have HBB := HB
        clear hrow1 hk hx
        by_cases hx0 : x.k = 0
        · have HV := As.mk (HM.out (by simp [hx0]))
          rw [hx0] at c0
          clear hx0
          go_wp2
          go_ret
          exact ⟨ret_bool HV.out.symm, HP.out⟩
        · have e0 : (x.k == 0) = false := by simpa using hx0
          cases hq : Ex.okR x
          · have HV := As.mk (HM.out (by rw [hq]; simp))
            clear hx0
            go_wp2_with (go_at_call 198; refine (HI.out x hx1 _ _ c1 _ HR1.out).mono ?_; rintro e w1 ⟨rfl, hu⟩; rw [hq]; have HU := As.mk hu; clear hu)
            go_ret
            exact ⟨ret_bool HV.out.symm, HP.out.trans HU.out (fun _ _ h => h)⟩
          · have HX0 := As.mk hx0
            clear hx0
            go_wp2_with (go_at_call 198; refine (HI.out x hx1 _ _ c1 _ HR1.out).mono ?_; rintro e w1 ⟨rfl, hu⟩; rw [hq]; have HU := As.mk hu; clear hu)
            go_roundg g1
            case measure => omega
            case rel => exact ⟨k + 1, by have := HK.out; omega, by go_num, ⟨by rw [HT.out, hq]; simp [HX0.out]⟩, ⟨HBB.out.pure HU.out⟩, ⟨HP.out.trans HU.out (fun _ _ h => h)⟩⟩
      · have hkl : k = l.length := by omega
        subst hkl
        rw [List.take_length] at HA
        by_cases hk01 : k0 = 0 ∨ k0 = 4 ∨ k0 = 5 ∨ k0 = 6
        · rcases hk01 with hk0 | hk4 | hk5 | hk6
          · subst hk0
            have HV := As.mk (show Ex.okR (.mk 0 nm l) = (decide (nm.size = 0) && decide (l.length = 0)) by rw [Ex.okR, HA.out]; rfl)
            cases hn : decide (nm.size = 0)
            · have f1 : nm.toList.isEmpty = false := by rw [empty_is, hn]
              rw [hn, Bool.false_and] at HV
              clear hn
              go_wp2
              go_ret
              exact ⟨ret_bool HV.out.symm, HP.out⟩
            · have f1 : nm.toList.isEmpty = true := by rw [empty_is, hn]
              rw [hn, Bool.true_and] at HV
              clear hn
              go_wp2
              go_ret
              exact ⟨ret_bool (by rw [HV.out, Bool.eq_iff_iff]; simp <;> omega), HP.out⟩
          · subst hk4
            have HV := As.mk (show Ex.okR (.mk 4 nm l) = (decide (nm.size = 0) && decide (l.length = 1)) by rw [Ex.okR, HA.out]; rfl)
            cases hn : decide (nm.size = 0)
            · have f1 : nm.toList.isEmpty = false := by rw [empty_is, hn]
              rw [hn, Bool.false_and] at HV
              clear hn
              go_wp2
              go_ret
              exact ⟨ret_bool HV.out.symm, HP.out⟩
            · have f1 : nm.toList.isEmpty = true := by rw [empty_is, hn]
              rw [hn, Bool.true_and] at HV
              clear hn
              go_wp2
              go_ret
              exact ⟨ret_bool (by rw [HV.out, Bool.eq_iff_iff]; simp <;> omega), HP.out⟩
          · subst hk5
            have HV := As.mk (show Ex.okR (.mk 5 nm l) = (decide (nm.size = 0) && decide (l.length = 1)) by rw [Ex.okR, HA.out]; rfl)
            cases hn : decide (nm.size = 0)
            · have f1 : nm.toList.isEmpty = false := by rw [empty_is, hn]
              rw [hn, Bool.false_and] at HV
              clear hn
              go_wp2
              go_ret
              exact ⟨ret_bool HV.out.symm, HP.out⟩
            · have f1 : nm.toList.isEmpty = true := by rw [empty_is, hn]
              rw [hn, Bool.true_and] at HV
              clear hn
              go_wp2
              go_ret
              exact ⟨ret_bool (by rw [HV.out, Bool.eq_iff_iff]; simp <;> omega), HP.out⟩
          · subst hk6
            have HV := As.mk (show Ex.okR (.mk 6 nm l) = (decide (nm.size = 0) && decide (l.length = 1)) by rw [Ex.okR, HA.out]; rfl)
            cases hn : decide (nm.size = 0)
            · have f1 : nm.toList.isEmpty = false := by rw [empty_is, hn]
              rw [hn, Bool.false_and] at HV
              clear hn
              go_wp2
              go_ret
              exact ⟨ret_bool HV.out.symm, HP.out⟩
            · have f1 : nm.toList.isEmpty = true := by rw [empty_is, hn]
              rw [hn, Bool.true_and] at HV
              clear hn
              go_wp2
              go_ret
              exact ⟨ret_bool (by rw [HV.out, Bool.eq_iff_iff]; simp <;> omega), HP.out⟩
        · by_cases hk1 : k0 = 1
          · subst hk1
            have HV := As.mk (show Ex.okR (.mk 1 nm l) = (nameB nm && decide (l.length = 0)) by rw [Ex.okR, HA.out]; rfl)
            cases hq : nameB nm
            · rw [hq, Bool.false_and] at HV
              go_wp2_with (go_at_call 163; refine (Letters_calls nm _ hs0).mono ?_; rintro e w1 ⟨rfl, hu⟩; rw [hq]; have HU := As.mk (HP.out.trans hu (fun _ _ h => h)); clear hu)
              go_ret
              exact ⟨ret_bool HV.out.symm, HU.out⟩
            · rw [hq, Bool.true_and] at HV
              have HBB := HB
              go_wp2_with (go_at_call 163; refine (Letters_calls nm _ hs0).mono ?_; rintro e w1 ⟨rfl, hu⟩; rw [hq]; obtain ⟨z0, z1, z2, z3⟩ := HBB.out.pure hu; have HU := As.mk (HP.out.trans hu (fun _ _ h => h)); clear hu)
              go_ret
              exact ⟨ret_bool (by rw [HV.out, Bool.eq_iff_iff]; simp <;> omega), HU.out⟩
          · by_cases hk23 : k0 = 2 ∨ k0 = 3
            · rcases hk23 with hk2 | hk3
              · subst hk2
                have HV := As.mk (show Ex.okR (.mk 2 nm l) = (l.all (fun x => decide (x.k ≠ 2)) && (decide (nm.size = 0) && decide (2 ≤ l.length))) by rw [Ex.okR, HA.out]; rfl)
                go_wp2
                go_loopg [4] l.length (fun g i wr => ∃ k : Nat, k + g = l.length ∧ i = .int .i64 k ∧ As ((l.take k).all (fun x => decide (x.k ≠ 2)) = true) ∧ As (BoxE w.heap.size 2 nm l.length A c wr) ∧ As (Pure w wr))
                case atStart => exact ⟨0, by omega, rfl, ⟨by simp⟩, HB, HP⟩
                case round =>
                  obtain ⟨k, hk, rfl, HA2, HB2, HP2⟩ := hrel
                  obtain ⟨z0, z1, z2, z3⟩ := HB2.out
                  by_cases hlt2 : k < l.length
                  · obtain ⟨x, hx⟩ : ∃ x, l[k]? = some x := ⟨_, List.getElem?_eq_getElem hlt2⟩
                    obtain ⟨b, o, A1, c1, rfl, hF, hbl, c0, c1', c2, hle1, hrow1⟩ := ex_at (Rp.row_pure HR.out HP2.out) hx
                    have HT := As.mk (show (l.take (k + 1)).all (fun x => decide (x.k ≠ 2)) = ((l.take k).all (fun x => decide (x.k ≠ 2)) && decide (x.k ≠ 2)) by rw [List.take_add_one, hx, List.all_append]; simp)
                    have HM := As.mk (fun (h : x.k = 2) => (show l.all (fun x => decide (x.k ≠ 2)) = false by rw [List.all_eq_false]; exact ⟨x, List.mem_of_getElem? hx, by simp [h]⟩))
                    have HKK := As.mk hk
                    clear hx hk hrow1
                    by_cases hxk : x.k = 2
                    · have hfa := HM.out hxk
                      rw [hfa, Bool.false_and] at HV
                      rw [hxk] at c0
                      clear hxk hfa
                      go_wp2
                      go_quiet (fail)
                      go_wp2
                      go_ret
                      exact ⟨ret_bool HV.out.symm, HP2.out.drewN _⟩
                    · have e9 : (x.k == 2) = false := by simpa using hxk
                      have HXK := As.mk hxk
                      obtain ⟨g2, rfl⟩ : ∃ m, gk = m + 1 := ⟨gk - 1, by have := HKK.out; omega⟩
                      clear hxk
                      go_wp2
                      go_quiet (fail)
                      go_wp2
                      go_roundg g2
                      case measure => omega
                      case rel => exact ⟨k + 1, by have := HKK.out; omega, by go_num, ⟨by rw [HT.out, HA2.out]; simp [HXK.out]⟩, ⟨(show BoxE _ _ _ _ _ _ _ from HB2.out.pure ((Upd.refl _ _).drewN _))⟩, ⟨HP2.out.drewN _⟩⟩
                  · have hkl2 : k = l.length := by omega
                    subst hkl2
                    rw [List.take_length] at HA2
                    rw [HA2.out, Bool.true_and] at HV
                    cases hn : decide (nm.size = 0)
                    · have f1 : nm.toList.isEmpty = false := by rw [empty_is, hn]
                      rw [hn, Bool.false_and] at HV
                      clear hn
                      go_wp2
                      go_ret
                      exact ⟨ret_bool HV.out.symm, HP2.out⟩
                    · have f1 : nm.toList.isEmpty = true := by rw [empty_is, hn]
                      rw [hn, Bool.true_and] at HV
                      clear hn
                      go_wp2
                      go_ret
                      exact ⟨ret_bool (by rw [HV.out, Bool.eq_iff_iff]; simp <;> omega), HP2.out⟩
              · subst hk3
                have HV := As.mk (show Ex.okR (.mk 3 nm l) = (l.all (fun x => decide (x.k ≠ 3)) && (decide (nm.size = 0) && decide (2 ≤ l.length))) by rw [Ex.okR, HA.out]; rfl)
                go_wp2
                go_loopg [4] l.length (fun g i wr => ∃ k : Nat, k + g = l.length ∧ i = .int .i64 k ∧ As ((l.take k).all (fun x => decide (x.k ≠ 3)) = true) ∧ As (BoxE w.heap.size 3 nm l.length A c wr) ∧ As (Pure w wr))
                case atStart => exact ⟨0, by omega, rfl, ⟨by simp⟩, HB, HP⟩
                case round =>
                  obtain ⟨k, hk, rfl, HA2, HB2, HP2⟩ := hrel
                  obtain ⟨z0, z1, z2, z3⟩ := HB2.out
                  by_cases hlt2 : k < l.length
                  · obtain ⟨x, hx⟩ : ∃ x, l[k]? = some x := ⟨_, List.getElem?_eq_getElem hlt2⟩
                    obtain ⟨b, o, A1, c1, rfl, hF, hbl, c0, c1', c2, hle1, hrow1⟩ := ex_at (Rp.row_pure HR.out HP2.out) hx
                    have HT := As.mk (show (l.take (k + 1)).all (fun x => decide (x.k ≠ 3)) = ((l.take k).all (fun x => decide (x.k ≠ 3)) && decide (x.k ≠ 3)) by rw [List.take_add_one, hx, List.all_append]; simp)
                    have HM := As.mk (fun (h : x.k = 3) => (show l.all (fun x => decide (x.k ≠ 3)) = false by rw [List.all_eq_false]; exact ⟨x, List.mem_of_getElem? hx, by simp [h]⟩))
                    have HKK := As.mk hk
                    clear hx hk hrow1
                    by_cases hxk : x.k = 3
                    · have hfa := HM.out hxk
                      rw [hfa, Bool.false_and] at HV
                      rw [hxk] at c0
                      clear hxk hfa
                      go_wp2
                      go_quiet (fail)
                      go_wp2
                      go_ret
                      exact ⟨ret_bool HV.out.symm, HP2.out.drewN _⟩
                    · have e9 : (x.k == 3) = false := by simpa using hxk
                      have HXK := As.mk hxk
                      obtain ⟨g2, rfl⟩ : ∃ m, gk = m + 1 := ⟨gk - 1, by have := HKK.out; omega⟩
                      clear hxk
                      go_wp2
                      go_quiet (fail)
                      go_wp2
                      go_roundg g2
                      case measure => omega
                      case rel => exact ⟨k + 1, by have := HKK.out; omega, by go_num, ⟨by rw [HT.out, HA2.out]; simp [HXK.out]⟩, ⟨(show BoxE _ _ _ _ _ _ _ from HB2.out.pure ((Upd.refl _ _).drewN _))⟩, ⟨HP2.out.drewN _⟩⟩
                  · have hkl2 : k = l.length := by omega
                    subst hkl2
                    rw [List.take_length] at HA2
                    rw [HA2.out, Bool.true_and] at HV
                    cases hn : decide (nm.size = 0)
                    · have f1 : nm.toList.isEmpty = false := by rw [empty_is, hn]
                      rw [hn, Bool.false_and] at HV
                      clear hn
                      go_wp2
                      go_ret
                      exact ⟨ret_bool HV.out.symm, HP2.out⟩
                    · have f1 : nm.toList.isEmpty = true := by rw [empty_is, hn]
                      rw [hn, Bool.true_and] at HV
                      clear hn
                      go_wp2
                      go_ret
                      exact ⟨ret_bool (by rw [HV.out, Bool.eq_iff_iff]; simp <;> omega), HP2.out⟩
            · have HV := As.mk (show Ex.okR (.mk k0 nm l) = false by rw [Ex.okR, if_neg (by omega), if_neg (by omega), if_neg (by omega), if_neg (by omega)]; simp)
              have e0 : (k0 == 0) = false := by simp; omega
              have e1 : (k0 == 1) = false := by simp; omega
              have e2 : (k0 == 2) = false := by simp; omega
              have e3 : (k0 == 3) = false := by simp; omega
              have e4 : (k0 == 4) = false := by simp; omega
              have e5 : (k0 == 5) = false := by simp; omega
              have e6 : (k0 == 6) = false := by simp; omega
              clear hk01 hk1 hk23
              go_wp2
              go_ret
              exact ⟨ret_bool HV.out.symm, HP.out⟩
set_option maxRecDepth 100000 in
set_option maxHeartbeats 4000000 in
theorem exprCheck5_calls {F : Nat → Prop} {A : Option Addr} {c : Nat} {e : Ex} {w : World} (hr : exR.row w F A e.l) (hb : e.wt ≤ 1048576 * 4) :
    Calls Tryz.prog 168 #[e.val A c] w fun r w' => r = .returned (.int .i64 (exprCheck e)) ∧ Pure w w' := by
  have hcb : e.cnt ≤ 1048576 * 4 := Nat.le_trans e.cnt_le_wt hb
  have hdb : e.dep ≤ e.cnt := e.dep_le_cnt
  have HC := As.mk (fun W (hu : Pure w W) => count_all (1048576 * 4) e hcb (Nat.le_refl _) F A c W (Rp.row_pure hr hu))
  have HD := As.mk (fun W (hu : Pure w W) => deep_all (1048576 * 4) e hcb (Nat.le_refl _) F A c W (Rp.row_pure hr hu))
  have HRT := As.mk (fun W (hu : Pure w W) => right5_all (1048576 * 4) e hb (Nat.le_refl _) F A c W (Rp.row_pure hr hu))
  have HV := As.mk (show exprCheck e = if e.cnt > 200 ∨ e.dep > 60 then 2 else if e.okR = false then 4 else 0 by
    unfold exprCheck
    rw [Ex.okR_okB e 0 (by omega)]
    have : (!(decide (e.k = 2 ∨ e.k = 3) && decide ((0 : Int) = e.k))) = true := by simp; omega
    rw [this]
    simp)
  clear hr
  obtain ⟨k0, nm, l⟩ := e
  unfold Ex.val at *
  try simp only at HC HD HRT
  generalize exprCheck (.mk k0 nm l) = ec at *
  generalize (Ex.mk k0 nm l).cnt = cn at *
  generalize (Ex.mk k0 nm l).dep = dn at *
  generalize (Ex.mk k0 nm l).okR = ok at *
  show Calls Tryz.prog 168 #[.agg #[.int .i64 k0, .string nm, .slice A l.length c]] w _
  by_cases h1 : 200 < cn
  · have i1 : (200 : Int) < (cn : Int) := by omega
    rw [if_pos (.inl h1)] at HV
    go_enter Tryz.func168, Tryz.ntmps168
    go_wp2_with (go_at_call 196; refine (HC.out _ (Upd.alloc1 _ _ _)).mono ?_; rintro e w1 ⟨rfl, hu⟩; obtain ⟨hb1, hu1⟩ := one_up5 hu; have HU := As.mk hu1; clear hu hb1 hu1)
    go_ret
    exact ⟨by rw [HV.out]; rfl, HU.out⟩
  · have i1 : ¬ (200 : Int) < (cn : Int) := by omega
    by_cases h2 : 60 < dn
    · have i2 : (60 : Int) < (dn : Int) := by omega
      rw [if_pos (.inr h2)] at HV
      go_enter Tryz.func168, Tryz.ntmps168
      go_wp2_with (first | (go_at_call 197; refine (HD.out _ HU.out).mono ?_; rintro e w2 ⟨rfl, hu⟩; have HU2 := As.mk (HU.out.trans hu (fun _ _ h => h)); clear hu) | (go_at_call 196; refine (HC.out _ (Upd.alloc1 _ _ _)).mono ?_; rintro e w1 ⟨rfl, hu⟩; obtain ⟨hb1, hu1⟩ := one_up5 hu; obtain ⟨⟨q0, q1, q2⟩, _⟩ := cells3r5 hb1; have HU := As.mk hu1; clear hu hb1 hu1))
      go_ret
      exact ⟨by rw [HV.out]; rfl, HU2.out⟩
    · have i2 : ¬ (60 : Int) < (dn : Int) := by omega
      rw [if_neg (by omega)] at HV
      cases ok
      all_goals
        have HV2 := As.mk HV.out
        go_enter Tryz.func168, Tryz.ntmps168
        go_wp2_with (first | (go_at_call 198; refine (HRT.out _ HU2.out).mono ?_; rintro e w3 ⟨rfl, hu⟩; have HU3 := As.mk (HU2.out.trans hu (fun _ _ h => h)); clear hu) | (go_at_call 197; refine (HD.out _ HU.out).mono ?_; rintro e w2 ⟨rfl, hu⟩; obtain ⟨⟨p0, p1, p2⟩, _⟩ := cells3r5 ((hu.block _ (lt5 HB1.out) (fun h => h)).trans HB1.out); have HU2 := As.mk (HU.out.trans hu (fun _ _ h => h)); clear hu) | (go_at_call 196; refine (HC.out _ (Upd.alloc1 _ _ _)).mono ?_; rintro e w1 ⟨rfl, hu⟩; obtain ⟨hb1, hu1⟩ := one_up5 hu; have HB1 := As.mk hb1; obtain ⟨⟨q0, q1, q2⟩, _⟩ := cells3r5 hb1; have HU := As.mk hu1; clear hu hb1 hu1))
        go_ret
        exact ⟨by rw [HV2.out]; rfl, HU3.out⟩
end Go.Proofs.YtofjodppljnlaaaGreatDoor
namespace Go.Proofs.YtofjodppljnlaaaGreatDoor
open Go.RowKit
set_option linter.unusedVariables false
set_option linter.unusedSimpArgs false
theorem getD_modify (fs : List (List Int)) (n i : Nat) (f : List Int → List Int) : (fs.modify n f).getD i [] = if n = i ∧ i < fs.length then f (fs.getD i []) else fs.getD i [] := by
  simp only [List.getD, List.getElem?_modify]
  cases hx : fs[i]? with
  | none =>
    have := List.getElem?_eq_none_iff.1 hx
    rw [if_neg (by omega)]
    split <;> simp
  | some y =>
    have hlt := (List.getElem?_eq_some_iff.1 hx).1
    by_cases h : n = i
    · simp [h, hlt]
    · simp [h]
theorem mem_joinF : ∀ (last : List Int) (fs : List (List Int)) (first : List Int) (i : Nat) (a : Int), a ∈ (joinF fs last first).getD i [] ↔ a ∈ fs.getD i [] ∨ (i < fs.length ∧ (∃ b ∈ last, b.toNat = i) ∧ a ∈ first) := by
  intro last
  induction last with
  | nil => intro fs first i a; simp [joinF]
  | cons b r ih =>
    intro fs first i a
    have e : joinF fs (b :: r) first = joinF (fs.modify b.toNat (· ++ first)) r first := rfl
    rw [e, ih, getD_modify]
    simp only [List.length_modify, List.mem_cons, exists_eq_or_imp]
    by_cases h : b.toNat = i ∧ i < fs.length
    · rw [if_pos h, List.mem_append]
      constructor
      · rintro ((h1 | h1) | ⟨h1, h2, h3⟩)
        · exact .inl h1
        · exact .inr ⟨h.2, .inl h.1, h1⟩
        · exact .inr ⟨h1, .inr h2, h3⟩
      · rintro (h1 | ⟨h1, h2 | h2, h3⟩)
        · exact .inl (.inl h1)
        · exact .inl (.inr h3)
        · exact .inr ⟨h1, h2, h3⟩
    · rw [if_neg h]
      constructor
      · rintro (h1 | ⟨h1, h2, h3⟩)
        · exact .inl h1
        · exact .inr ⟨h1, .inr h2, h3⟩
      · rintro (h1 | ⟨h1, h2 | h2, h3⟩)
        · exact .inl h1
        · exact absurd ⟨h2, h1⟩ h
        · exact .inr ⟨h1, h2, h3⟩
theorem check_iff (e : Ex) (g : List Grp) : regCheck e g = 0 ↔ (e.cnt ≤ 200 ∧ e.dep ≤ 60 ∧ e.okB 0 = true) ∧ longB g = false ∧ e.namedB g = true := by
  constructor
  · intro h
    obtain ⟨h1, h2, h3⟩ := regCheck_zero h
    unfold exprCheck at h1
    split at h1
    · simp at h1
    · rename_i h4
      split at h1
      · simp at h1
      · rename_i h5
        exact ⟨⟨by omega, by omega, by simpa using h5⟩, h2, h3⟩
  · rintro ⟨⟨h1, h2, h3⟩, h4, h5⟩
    have e1 : exprCheck e = 0 := by
      unfold exprCheck
      rw [if_neg (by omega), if_neg (by rw [h3]; simp)]
    unfold regCheck
    rw [e1, if_neg (by simp), if_neg (by rw [h4]; simp), if_neg (by rw [h5]; simp)]
theorem Path.mono {ts fs fs' : List (List Int)} {p p' : Part} (h : ∀ x y, y ∈ nextsOf fs p x → y ∈ nextsOf fs' p' x) {w : List Int} {x : Int} (hp : Path ts fs p w x) : Path ts fs' p' w x := by
  induction hp with
  | nil => exact .nil
  | snoc w x y t _ h2 h3 ih => exact .snoc w x y t ih (h x y h2) h3
theorem Path.zero {ts fs : List (List Int)} {p : Part} (hM : MOk ts fs p) {w : List Int} {x : Int} (hp : Path ts fs p w x) : (w = [] ∧ x = -1) ∨ (w ≠ [] ∧ 0 ≤ x ∧ x < ts.length) := by
  cases hp with
  | nil => exact .inl ⟨rfl, rfl⟩
  | snoc w x y t _ h2 h3 => exact .inr ⟨by simp, hM.ok _ _ h2⟩
section
variable {e : Ex} {g : List Grp}
end
end Go.Proofs.YtofjodppljnlaaaGreatDoor
namespace Go.Proofs.YtofjodppljnlaaaGreatDoor
open Go.RowKit
set_option linter.unusedVariables false
set_option linter.unusedSimpArgs false
set_option maxRecDepth 100000 in
set_option maxHeartbeats 4000000 in
theorem types6_calls {F : Nat → Prop} {A : Option Addr} {c : Nat} {g : List Grp} (nm : ByteArray) {w : World} (hr : grpR.row w F A g) (hb : g.length ≤ 1048576) :
    Calls Tryz.prog 199 #[.slice A g.length c, .string nm] w fun r w' => (∃ A1 c1, r = .returned (.slice A1 (typesOf g nm).length c1) ∧ (typesOf g nm).length ≤ c1 ∧ intR.row w F A1 (typesOf g nm)) ∧ Pure w w' := by
  have HR := As.mk hr
  clear hr
  go_enter Tryz.func199, Tryz.ntmps199
  go_wp2
  go_loopg [5] g.length (fun gg i wr => ∃ k : Nat, k + gg = g.length ∧ i = .int .i64 k ∧ As (typesOf (g.drop k) nm = typesOf g nm) ∧ As (wr = w))
  case atStart => exact ⟨0, by omega, rfl, ⟨rfl⟩, ⟨rfl⟩⟩
  case round =>
    obtain ⟨k, hk, rfl, HT, HW⟩ := hrel
    obtain rfl := HW.out
    by_cases hlt : k < g.length
    · obtain ⟨x, hx⟩ : ∃ x, g[k]? = some x := ⟨_, List.getElem?_eq_getElem hlt⟩
      obtain ⟨b, o, A1, c1, rfl, hF, hbl, d0, d1, hle1, hrow1⟩ := grp_at HR.out hx
      obtain ⟨g1, rfl⟩ : ∃ m, gk = m + 1 := ⟨gk - 1, by omega⟩
      have hd := drop_cons' hx
      rw [hd] at HT
      have HR1 := As.mk hrow1
      have HK := As.mk hk
      clear hrow1 hk hx hd
      by_cases hn : x.name = nm
      · have HV : As (x.types = typesOf g nm) := ⟨by rw [← HT.out, typesOf, if_pos hn]⟩
        subst hn
        clear HT
        go_wp2
        go_ret
        exact ⟨⟨A1, c1, by rw [← HV.out]; rfl, by rw [← HV.out]; exact hle1, by rw [← HV.out]; exact HR1.out⟩, Upd.refl _ _⟩
      · have HV : As (typesOf (g.drop (k + 1)) nm = typesOf g nm) := ⟨by rw [← HT.out, typesOf, if_neg hn]⟩
        have hn2 := bytes_ne hn
        clear HT
        go_wp2
        go_roundg g1
        case measure => omega
        case rel => exact ⟨k + 1, by have := HK.out; omega, by go_num, HV, ⟨rfl⟩⟩
    · have hkl : k = g.length := by omega
      subst hkl
      rw [List.drop_length] at HT
      have HT2 : As (typesOf g nm = []) := ⟨by rw [← HT.out]; rfl⟩
      clear HT
      go_wp2
      go_ret
      exact ⟨⟨none, 0, by rw [HT2.out]; rfl, by rw [HT2.out]; simp, by rw [HT2.out]; exact .inl rfl⟩, Upd.refl _ _⟩
mutual
def Ex.knownB (g : List Grp) : Ex → Bool
  | .mk k nm l => (decide (k ≠ 1) || decide (0 < (typesOf g nm).length)) && Ex.knownsB g l
def Ex.knownsB (g : List Grp) : List Ex → Bool
  | [] => true
  | x :: r => Ex.knownB g x && Ex.knownsB g r
end
theorem Ex.knownsB_all (g : List Grp) (l : List Ex) : Ex.knownsB g l = l.all (Ex.knownB g) := by
  induction l with
  | nil => rfl
  | cons x r ih => simp [Ex.knownsB, ih]
theorem Ex.knowns_take {g : List Grp} {l : List Ex} {k : Nat} {x : Ex} (hx : l[k]? = some x) : Ex.knownsB g (l.take (k + 1)) = (Ex.knownsB g (l.take k) && Ex.knownB g x) := by
  rw [List.take_add_one, hx, Ex.knownsB_all, Ex.knownsB_all, List.all_append]
  simp
theorem Ex.knowns_mem {g : List Grp} {l : List Ex} {x : Ex} (hx : x ∈ l) (h : Ex.knownB g x = false) : Ex.knownsB g l = false := by
  rw [Ex.knownsB_all, List.all_eq_false]
  exact ⟨x, hx, by rw [h]; simp⟩
mutual
theorem Ex.known_named (g : List Grp) : ∀ (e : Ex) (i : Int), e.okB i = true → Ex.knownB g e = Ex.namedB g e
  | .mk k nm l, i, h => by
    rw [Ex.knownB, Ex.namedB]
    rw [Ex.okB] at h
    by_cases h1 : k = 1
    · rw [if_pos h1] at h
      rw [if_pos h1]
      simp only [Bool.and_eq_true, decide_eq_true_eq] at h
      have : l = [] := List.eq_nil_of_length_eq_zero h.2
      subst this
      simp [Ex.knownsB, h1]
    · rw [if_neg h1] at h ⊢
      split at h
      · cases h
      · simp only [Bool.and_eq_true, decide_eq_true_eq] at h
        rw [Ex.knowns_nameds g l k h.1.1.1]
        simp [h1]
theorem Ex.knowns_nameds (g : List Grp) : ∀ (l : List Ex) (i : Int), Ex.oksB i l = true → Ex.knownsB g l = Ex.namedsB g l
  | [], _, _ => by rw [Ex.knownsB, Ex.namedsB]
  | x :: r, i, h => by
    rw [Ex.oksB, Bool.and_eq_true] at h
    rw [Ex.knownsB, Ex.namedsB, Ex.known_named g x i h.1, Ex.knowns_nameds g r i h.2]
end
set_option maxRecDepth 100000 in
set_option maxHeartbeats 4000000 in
theorem known_all (N : Nat) : ∀ (e : Ex), e.wt ≤ N → N ≤ 1048576 * 4 → ∀ (F G : Nat → Prop) (A B : Option Addr) (c d : Nat) (g : List Grp) (w : World), exR.row w F A e.l → grpR.row w G B g → g.length ≤ 1048576 →
    Calls Tryz.prog 169 #[e.val A c, .slice B g.length d] w fun r w' => r = .returned (.bool (e.knownB g)) ∧ Pure w w' := by
  induction N with
  | zero => intro e he; have := e.wt_pos; omega
  | succ N ih =>
    intro e he hN F G A B c d g w hr hg hgl
    obtain ⟨k0, nm, l⟩ := e
    have HI := As.mk (fun (x : Ex) (hx : x.wt ≤ N) => ih x hx (by omega))
    have HR := As.mk hr
    have HG := As.mk hg
    have hc0 : Ex.wts l ≤ N := by simp only [Ex.wt] at he; omega
    have hll := Ex.wts_len l
    have HTY := As.mk (fun W (hu : Pure w W) => types6_calls nm (c := d) (Rp.row_pure hg hu) hgl)
    clear hr hg he ih
    by_cases hno : k0 = 1 ∧ (typesOf g nm).length = 0
    · obtain ⟨rfl, h0⟩ := hno
      have HV := As.mk (show Ex.knownB g (.mk 1 nm l) = false by rw [Ex.knownB, h0]; simp)
      go_enter Tryz.func169, Tryz.ntmps169
      go_wp2_with (go_at_call 199; refine (HTY.out _ (Upd.alloc1 _ _ _)).mono ?_; rintro e w1 ⟨⟨A1, c1, rfl, _, _⟩, hu⟩; rw [h0]; obtain ⟨_, hu1⟩ := one_up5 hu; have HU1 := As.mk hu1; clear hu hu1)
      go_ret
      exact ⟨ret_bool HV.out.symm, HU1.out⟩
    · have HV := As.mk (show Ex.knownB g (.mk k0 nm l) = Ex.knownsB g l by
        rw [Ex.knownB]
        have : (decide (k0 ≠ 1) || decide (0 < (typesOf g nm).length)) = true := by
          rw [Bool.or_eq_true, decide_eq_true_eq, decide_eq_true_eq]
          by_cases h : k0 = 1
          · right
            have : ¬ (typesOf g nm).length = 0 := fun h0 => hno ⟨h, h0⟩
            omega
          · exact .inl h
        rw [this, Bool.true_and])
      by_cases hk1 : k0 = 1
      · have hlen : ¬ (typesOf g nm).length = 0 := fun h0 => hno ⟨hk1, h0⟩
        have f1 : (((typesOf g nm).length : Int) == 0) = false := by simp; intro e; exact hlen (by rw [e]; rfl)
        have f2 : ((typesOf g nm).length == 0) = false := by simpa using hlen
        subst hk1
        clear hno hlen
        go_enter Tryz.func169, Tryz.ntmps169
        go_wp2_with (go_at_call 199; refine (HTY.out _ (Upd.alloc1 _ _ _)).mono ?_; rintro e w1 ⟨⟨A1, c1, rfl, _, _⟩, hu⟩; have HBX := As.mk (BoxE.pure (BoxE.new w 1 nm l.length A c 92) hu); obtain ⟨_, hu1⟩ := one_up5 hu; have HU1 := As.mk hu1; clear hu hu1)
        go_loopg [5] l.length (fun g' i wr => ∃ k : Nat, k + g' = l.length ∧ i = .int .i64 k ∧ As (Ex.knownsB g (l.take k) = true) ∧ As (BoxE w.heap.size 1 nm l.length A c wr) ∧ As (Pure w wr))
        case atStart => exact ⟨0, by omega, rfl, ⟨by simp [Ex.knownsB]⟩, HBX, HU1⟩
        case round =>
          obtain ⟨k, hk, rfl, HA, HB, HP⟩ := hrel
          obtain ⟨q0, q1, q2, q3⟩ := HB.out
          by_cases hlt : k < l.length
          · obtain ⟨x, hx⟩ : ∃ x, l[k]? = some x := ⟨_, List.getElem?_eq_getElem hlt⟩
            obtain ⟨b, o, A1, c1, rfl, hF, hbl, c0, c1', c2, hle1, hrow1⟩ := ex_at (Rp.row_pure HR.out HP.out) hx
            obtain ⟨g1, rfl⟩ : ∃ m, gk = m + 1 := ⟨gk - 1, by omega⟩
            have hx1 : x.wt ≤ N := Nat.le_trans (Ex.wt_mem (List.mem_of_getElem? hx)) hc0
            have HT := As.mk (Ex.knowns_take (g := g) hx)
            rw [HA.out, Bool.true_and] at HT
            have HM := As.mk (fun (h : Ex.knownB g x = false) => (by rw [HV.out]; exact Ex.knowns_mem (List.mem_of_getElem? hx) h : Ex.knownB g (.mk 1 nm l) = false))
            have HR1 := As.mk hrow1
            have HK := As.mk hk
            have HBB := HB
            clear hrow1 hk hx
            cases hq : Ex.knownB g x
            · have HV2 := As.mk (HM.out hq)
              go_wp2_with (go_at_call 169; refine (HI.out x hx1 _ _ _ _ c1 _ _ _ HR1.out (Rp.row_pure HG.out HP.out) hgl).mono ?_; rintro e w2 ⟨rfl, hu⟩; rw [hq]; have HU := As.mk hu; clear hu)
              go_ret
              exact ⟨ret_bool HV2.out.symm, HP.out.trans HU.out (fun _ _ h => h)⟩
            · go_wp2_with (go_at_call 169; refine (HI.out x hx1 _ _ _ _ c1 _ _ _ HR1.out (Rp.row_pure HG.out HP.out) hgl).mono ?_; rintro e w2 ⟨rfl, hu⟩; rw [hq]; have HU := As.mk hu; clear hu)
              go_roundg g1
              case measure => omega
              case rel => exact ⟨k + 1, by have := HK.out; omega, by go_num, ⟨by rw [HT.out, hq]⟩, ⟨HBB.out.pure HU.out⟩, ⟨HP.out.trans HU.out (fun _ _ h => h)⟩⟩
          · have hkl : k = l.length := by omega
            subst hkl
            rw [List.take_length] at HA
            go_wp2
            go_ret
            exact ⟨ret_bool (by rw [HV.out, HA.out]), HP.out⟩
      · have e1 : (k0 == 1) = false := by simpa using hk1
        clear hno hk1
        go_enter Tryz.func169, Tryz.ntmps169
        go_wp2
        go_loopg [5] l.length (fun g' i wr => ∃ k : Nat, k + g' = l.length ∧ i = .int .i64 k ∧ As (Ex.knownsB g (l.take k) = true) ∧ As (BoxE w.heap.size k0 nm l.length A c wr) ∧ As (Pure w wr))
        case atStart => exact ⟨0, by omega, rfl, ⟨by simp [Ex.knownsB]⟩, ⟨BoxE.new _ _ _ _ _ _ _⟩, ⟨Upd.alloc1 _ _ _⟩⟩
        case round =>
          obtain ⟨k, hk, rfl, HA, HB, HP⟩ := hrel
          obtain ⟨q0, q1, q2, q3⟩ := HB.out
          by_cases hlt : k < l.length
          · obtain ⟨x, hx⟩ : ∃ x, l[k]? = some x := ⟨_, List.getElem?_eq_getElem hlt⟩
            obtain ⟨b, o, A1, c1, rfl, hF, hbl, c0, c1', c2, hle1, hrow1⟩ := ex_at (Rp.row_pure HR.out HP.out) hx
            obtain ⟨g1, rfl⟩ : ∃ m, gk = m + 1 := ⟨gk - 1, by omega⟩
            have hx1 : x.wt ≤ N := Nat.le_trans (Ex.wt_mem (List.mem_of_getElem? hx)) hc0
            have HT := As.mk (Ex.knowns_take (g := g) hx)
            rw [HA.out, Bool.true_and] at HT
            have HM := As.mk (fun (h : Ex.knownB g x = false) => (by rw [HV.out]; exact Ex.knowns_mem (List.mem_of_getElem? hx) h : Ex.knownB g (.mk k0 nm l) = false))
            have HR1 := As.mk hrow1
            have HK := As.mk hk
            have HBB := HB
            clear hrow1 hk hx
            cases hq : Ex.knownB g x
            · have HV2 := As.mk (HM.out hq)
              go_wp2_with (go_at_call 169; refine (HI.out x hx1 _ _ _ _ c1 _ _ _ HR1.out (Rp.row_pure HG.out HP.out) hgl).mono ?_; rintro e w2 ⟨rfl, hu⟩; rw [hq]; have HU := As.mk hu; clear hu)
              go_ret
              exact ⟨ret_bool HV2.out.symm, HP.out.trans HU.out (fun _ _ h => h)⟩
            · go_wp2_with (go_at_call 169; refine (HI.out x hx1 _ _ _ _ c1 _ _ _ HR1.out (Rp.row_pure HG.out HP.out) hgl).mono ?_; rintro e w2 ⟨rfl, hu⟩; rw [hq]; have HU := As.mk hu; clear hu)
              go_roundg g1
              case measure => omega
              case rel => exact ⟨k + 1, by have := HK.out; omega, by go_num, ⟨by rw [HT.out, hq]⟩, ⟨HBB.out.pure HU.out⟩, ⟨HP.out.trans HU.out (fun _ _ h => h)⟩⟩
          · have hkl : k = l.length := by omega
            subst hkl
            rw [List.take_length] at HA
            go_wp2
            go_ret
            exact ⟨ret_bool (by rw [HV.out, HA.out]), HP.out⟩
set_option maxRecDepth 100000 in
set_option maxHeartbeats 4000000 in
theorem regCheck6_calls {F G : Nat → Prop} {A B : Option Addr} {c d : Nat} {e : Ex} {g : List Grp} {w : World} (hr : exR.row w F A e.l) (hg : grpR.row w G B g) (hb : e.wt ≤ 1048576 * 4) (hgl : g.length ≤ 1048576) (hgt : ∀ x ∈ g, x.types.length ≤ 1048576) :
    Calls Tryz.prog 133 #[e.val A c, .slice B g.length d] w fun r w' => r = .returned (.int .i64 (regCheck e g)) ∧ Pure w w' := by
  have HEC := As.mk (fun W (hu : Pure w W) => exprCheck5_calls (c := c) (Rp.row_pure hr hu) hb)
  have HKN := As.mk (fun W (hu : Pure w W) => known_all (1048576 * 4) e hb (Nat.le_refl _) F G A B c d g W (Rp.row_pure hr hu) (Rp.row_pure hg hu) hgl)
  have HG := As.mk hg
  have HV := As.mk (show regCheck e g = if exprCheck e ≠ 0 then exprCheck e else if longB g = true then 1 else if e.knownB g = false then 6 else 0 by
    unfold regCheck
    by_cases h0 : exprCheck e = 0
    · simp only [h0, ne_eq, not_true_eq_false, if_false]
      have hok : e.okB 0 = true := by
        unfold exprCheck at h0
        split at h0
        · cases h0
        · split at h0
          · cases h0
          · rename_i h; simpa using h
      rw [Ex.known_named g e 0 hok]
    · rw [if_pos h0, if_pos h0])
  have HLG := As.mk (show longB g = (decide (16 < g.length) || g.any grpB) from rfl)
  have HGT := As.mk hgt
  clear hr hg hgt
  obtain ⟨k0, nm, l⟩ := e
  unfold Ex.val at *
  generalize regCheck (.mk k0 nm l) g = rc at *
  generalize exprCheck (.mk k0 nm l) = ec at *
  generalize (Ex.mk k0 nm l).knownB g = kn at *
  show Calls Tryz.prog 133 #[.agg #[.int .i64 k0, .string nm, .slice A l.length c], .slice B g.length d] w _
  by_cases h0 : ec = 0
  · subst h0
    rw [if_neg (by omega)] at HV
    by_cases hgl2 : 16 < g.length
    · have i1 : (16 : Int) < (g.length : Int) := by omega
      have HV2 := As.mk (show rc = 1 by rw [HV.out, HLG.out]; simp [hgl2])
      clear HV HLG
      go_enter Tryz.func133, Tryz.ntmps133
      go_wp2_with (go_at_call 168; refine (HEC.out _ (Upd.alloc1 _ _ _)).mono ?_; rintro e w1 ⟨rfl, hu⟩; obtain ⟨_, hu1⟩ := one_up5 hu; have HU1 := As.mk hu1; clear hu hu1)
      go_ret
      exact ⟨by rw [HV2.out]; rfl, HU1.out⟩
    · have i1 : ¬ (16 : Int) < (g.length : Int) := by omega
      have HLG2 := As.mk (show longB g = g.any grpB by rw [HLG.out]; simp [hgl2])
      clear HLG
      go_enter Tryz.func133, Tryz.ntmps133
      go_wp2_with (go_at_call 168; refine (HEC.out _ (Upd.alloc1 _ _ _)).mono ?_; rintro e w1 ⟨rfl, hu⟩; obtain ⟨hb1, hu1⟩ := one_up5 hu; have HB1 := As.mk hb1; have HU1 := As.mk hu1; clear hu hu1 hb1)
      go_loopg [6] g.length (fun gg i wr => ∃ k : Nat, k + gg = g.length ∧ i = .int .i64 k ∧ As ((g.take k).any grpB = false) ∧ As (wr = w1))
      case atStart => exact ⟨0, by omega, rfl, ⟨by simp⟩, ⟨rfl⟩⟩
      case round =>
        obtain ⟨k, hk, rfl, HA, HW⟩ := hrel
        obtain rfl := HW.out
        by_cases hlt : k < g.length
        · obtain ⟨x, hx⟩ : ∃ x, g[k]? = some x := ⟨_, List.getElem?_eq_getElem hlt⟩
          obtain ⟨b, o, A1, c1, rfl, hF, hbl, d0, d1, hle1, hrow1⟩ := grp_at (Rp.row_pure HG.out HU1.out) hx
          obtain ⟨g1, rfl⟩ : ∃ m, gk = m + 1 := ⟨gk - 1, by omega⟩
          have HT := As.mk (any_succ (f := grpB) hx)
          have HM := As.mk (fun (h : grpB x = true) => (by rw [HV.out, HLG2.out, List.any_eq_true.2 ⟨x, List.mem_of_getElem? hx, h⟩]; rfl : rc = 1))
          have HR1 := As.mk hrow1
          have htl := HGT.out x (List.mem_of_getElem? hx)
          have HK := As.mk hk
          clear hrow1 hk hx
          by_cases hlen : 16 < x.types.length
          · have i2 : (16 : Int) < (x.types.length : Int) := by omega
            have HV2 := As.mk (HM.out (by simp [grpB, hlen]))
            go_wp2
            go_ret
            exact ⟨by rw [HV2.out]; rfl, HU1.out⟩
          · have i2 : ¬ (16 : Int) < (x.types.length : Int) := by omega
            have HGB := As.mk (show grpB x = x.types.any outB by simp [grpB, hlen])
            go_wp2
            go_loopg [7] x.types.length (fun g2 i wx => ∃ q : Nat, q + g2 = x.types.length ∧ i = .int .i64 q ∧ As ((x.types.take q).any outB = false) ∧ As (wx = wr))
            case atStart => exact ⟨0, by omega, rfl, ⟨by simp⟩, ⟨rfl⟩⟩
            case round =>
              obtain ⟨q, hq, rfl, HA2, HW2⟩ := hrel
              obtain rfl := HW2.out
              by_cases hlt2 : q < x.types.length
              · obtain ⟨y, hy⟩ : ∃ y, x.types[q]? = some y := ⟨_, List.getElem?_eq_getElem hlt2⟩
                obtain ⟨g2, rfl⟩ : ∃ m, gk = m + 1 := ⟨gk - 1, by omega⟩
                obtain ⟨b2, o2, rfl, hF2, hbl2, y0⟩ := int_at HR1.out hy
                have HT2 := As.mk (any_succ (f := outB) hy)
                have HM2 := As.mk (fun (h : outB y = true) => HM.out (by rw [HGB.out]; exact List.any_eq_true.2 ⟨y, List.mem_of_getElem? hy, h⟩))
                have HQ := As.mk hq
                clear hq hy
                by_cases y1 : y < 0
                · have HV2 := As.mk (HM2.out (by simp [outB, y1]))
                  go_wp2
                  go_ret
                  exact ⟨by rw [HV2.out]; rfl, HU1.out⟩
                · by_cases y2 : 16 ≤ y
                  · have HV2 := As.mk (HM2.out (by simp [outB, y2]))
                    have y3 : y ≥ 16 := y2
                    go_wp2
                    go_ret
                    exact ⟨by rw [HV2.out]; rfl, HU1.out⟩
                  · have HO : As (outB y = false) := ⟨by simp [outB]; omega⟩
                    have y3 : ¬ y ≥ 16 := y2
                    go_wp2
                    go_roundg g2
                    case measure => omega
                    case rel => exact ⟨q + 1, by have := HQ.out; omega, by go_num, ⟨by rw [HT2.out, HO.out, HA2.out]; rfl⟩, ⟨rfl⟩⟩
              · have hql : q = x.types.length := by omega
                subst hql
                rw [List.take_length] at HA2
                go_wp2
                go_roundg g1
                case measure => omega
                case rel => exact ⟨k + 1, by have := HK.out; omega, by go_num, ⟨by rw [HT.out, HA.out, HGB.out, HA2.out]; rfl⟩, ⟨rfl⟩⟩
        · have hkl : k = g.length := by omega
          subst hkl
          rw [List.take_length] at HA
          rw [HLG2.out, HA.out, if_neg (by simp)] at HV
          obtain ⟨⟨q0, q1, q2⟩, q3⟩ := cells3r5 HB1.out
          cases kn
          all_goals
            have HV2 := As.mk HV.out
            go_wp2_with (go_at_call 169; refine (HKN.out _ HU1.out).mono ?_; rintro e w2 ⟨rfl, hu⟩; have HU2 := As.mk (HU1.out.trans hu (fun _ _ h => h)); clear hu)
            go_ret
            exact ⟨by rw [HV2.out]; rfl, HU2.out⟩
  · have f0 : (ec != 0) = true := by simpa using h0
    rw [if_pos h0] at HV
    clear h0
    go_enter Tryz.func133, Tryz.ntmps133
    go_wp2_with (go_at_call 168; refine (HEC.out _ (Upd.alloc1 _ _ _)).mono ?_; rintro e w1 ⟨rfl, hu⟩; obtain ⟨_, hu1⟩ := one_up5 hu; have HU1 := As.mk hu1; clear hu hu1)
    go_ret
    exact ⟨by rw [HV.out]; rfl, HU1.out⟩
end Go.Proofs.YtofjodppljnlaaaGreatDoor
namespace Go.Proofs.YtofjodppljnlaaaGreatDoor
open Go.RowKit
set_option linter.unusedVariables false
set_option linter.unusedSimpArgs false
mutual
theorem layE_wt (ty : ByteArray → List Int) : ∀ (e : Ex) (a b : Nat) (N : NetD), (layE ty e a b N).wt + 1 ≤ N.wt + 8 * e.cnt
  | .mk k nm l, a, b, N => by
    unfold layE
    rw [Ex.cnt]
    by_cases h0 : k = 0
    · rw [if_pos h0]; have := N.wt_free a b; omega
    · rw [if_neg h0]
      by_cases h1 : k = 1
      · rw [if_pos h1, NetD.wt_setBy]; have := N.place.wt_free a N.nx.length; have := N.wt_place; omega
      · rw [if_neg h1]
        by_cases h2 : k = 2
        · rw [if_pos h2]; have := laySeq_wt ty l a b N; omega
        · rw [if_neg h2]
          by_cases h3 : k = 3
          · rw [if_pos h3]; have := layAlt_wt ty l a b N; omega
          · rw [if_neg h3]
            have i1 := N.wt_place
            have i2 := N.place.wt_place
            have i3 := N.place.place.wt_free a N.nx.length
            have i4 := layOne_wt ty l N.nx.length (N.nx.length + 1) (N.place.place.free a N.nx.length)
            have i5 := (layOne ty l N.nx.length (N.nx.length + 1) (N.place.place.free a N.nx.length)).wt_free (N.nx.length + 1) b
            have i6 := ((layOne ty l N.nx.length (N.nx.length + 1) (N.place.place.free a N.nx.length)).free (N.nx.length + 1) b).wt_free (N.nx.length + 1) N.nx.length
            have i7 := ((layOne ty l N.nx.length (N.nx.length + 1) (N.place.place.free a N.nx.length)).free (N.nx.length + 1) b).wt_free a b
            have i8 := (((layOne ty l N.nx.length (N.nx.length + 1) (N.place.place.free a N.nx.length)).free (N.nx.length + 1) b).free (N.nx.length + 1) N.nx.length).wt_free a b
            dsimp only
            split <;> split <;> omega
theorem laySeq_wt (ty : ByteArray → List Int) : ∀ (l : List Ex) (a b : Nat) (N : NetD), (laySeq ty l a b N).wt ≤ N.wt + 8 * Ex.cnts l + 1
  | [], a, b, N => by unfold laySeq; have := N.wt_free a b; omega
  | x :: r, a, b, N => by
    unfold laySeq
    rw [Ex.cnts]
    have i1 := layE_wt ty x a N.nx.length N.place
    have i2 := laySeq_wt ty r N.nx.length b (layE ty x a N.nx.length N.place)
    have i3 := N.wt_place
    omega
theorem layAlt_wt (ty : ByteArray → List Int) : ∀ (l : List Ex) (a b : Nat) (N : NetD), (layAlt ty l a b N).wt ≤ N.wt + 8 * Ex.cnts l
  | [], a, b, N => by unfold layAlt; omega
  | x :: r, a, b, N => by
    unfold layAlt
    rw [Ex.cnts]
    have i1 := layE_wt ty x a b N
    have i2 := layAlt_wt ty r a b (layE ty x a b N)
    omega
theorem layOne_wt (ty : ByteArray → List Int) : ∀ (l : List Ex) (a b : Nat) (N : NetD), (layOne ty l a b N).wt ≤ N.wt + 8 * Ex.cnts l
  | [], a, b, N => by unfold layOne; omega
  | x :: r, a, b, N => by
    unfold layOne
    rw [Ex.cnts]
    have i1 := layE_wt ty x a b N
    omega
end
theorem NetD.tl_wt {N : NetD} (h : N.Ok) : N.tos.length ≤ N.wt := by rw [h.tl]; unfold wt; omega
theorem NetD.nx_wt (N : NetD) : N.nx.length ≤ N.wt := by unfold wt; omega
theorem NetGo.step {w w1 w2 : World} {B : Nat} {M M1 : Nat → Prop} {nb : Nat} {N : NetD} (g1 : Grow M M1 w.heap.size w1.heap.size) (u1 : Upd M w w1) (h : NetGo w1 w2 B M1 nb N) : NetGo w w2 B M nb N := by
  obtain ⟨M2, r2, g2, u2⟩ := h
  obtain ⟨g, u⟩ := Grow.comp g1 u1 g2 u2
  exact ⟨M2, r2, g, u⟩
theorem NetGo.upd {w w1 : World} {B : Nat} {M : Nat → Prop} {nb : Nat} {N : NetD} (h : NetGo w w1 B M nb N) : Upd M w w1 := by obtain ⟨_, _, _, u⟩ := h; exact u
theorem NetGo.pure {w w1 w2 : World} {B : Nat} {M : Nat → Prop} {nb : Nat} {N : NetD} (h : NetGo w w1 B M nb N) (hu : Pure w1 w2) : NetGo w w2 B M nb N := by
  obtain ⟨M1, r1, g1, u1⟩ := h
  obtain ⟨g, u⟩ := Grow.comp g1 u1 Grow.same (hu.mono (fun _ _ h => h.elim))
  exact ⟨M1, r1.pure hu, g, u⟩
theorem BoxE.go {b : Nat} {k : Int} {nm : ByteArray} {n : Nat} {A : Option Addr} {c : Nat} {W wr : World} {B : Nat} {M : Nat → Prop} {nb : Nat} {N : NetD} (h : BoxE b k nm n A c W) (hg : NetGo W wr B M nb N) (hM : ¬ M b) : BoxE b k nm n A c wr := by
  obtain ⟨h1, h2, h3, h4⟩ := h
  have hu := hg.upd
  exact ⟨(hu.cell h4 hM).trans h1, (hu.cell h4 hM).trans h2, (hu.cell h4 hM).trans h3, Nat.lt_of_lt_of_le h4 hu.size⟩
section
variable {W wr : World} {B : Nat} {M : Nat → Prop} {nb : Nat} {N : NetD}
theorem place_go (h : NetGo W wr B M nb N) (ok : N.Ok) (hb : N.wt ≤ 1048576) :
    Calls Tryz.prog 170 #[.pointer (some ⟨nb, 0, none⟩)] wr fun r w' => r = .returned (.int .i64 N.nx.length) ∧ NetGo W w' B M nb N.place := by
  obtain ⟨M1, r1, g1, u1⟩ := h
  refine (nplc_calls r1 ok.tl ok.bl (Nat.le_trans N.nx_wt hb)).mono ?_
  rintro r w' ⟨rfl, hg⟩
  exact ⟨rfl, NetGo.step g1 u1 hg⟩
theorem free_go (h : NetGo W wr B M nb N) (ok : N.Ok) (hb : N.wt ≤ 1048576) {a b : Nat} (ha : a < N.nx.length) :
    Calls Tryz.prog 200 #[.pointer (some ⟨nb, 0, none⟩), .int .i64 a, .int .i64 b] wr fun r w' => r = .returned (.tuple #[]) ∧ NetGo W w' B M nb (N.free a b) := by
  obtain ⟨M1, r1, g1, u1⟩ := h
  refine (free_calls r1 (by rw [ok.tl]; exact ha) (Nat.le_trans (NetD.tl_wt ok) hb) hb).mono ?_
  rintro r w' ⟨rfl, hg⟩
  exact ⟨rfl, NetGo.step g1 u1 hg⟩
end
def LayC (e : Ex) : Prop := ∀ (W wr : World) (B : Nat) (M F G : Nat → Prop) (nb : Nat) (N : NetD) (A Ag : Option Addr) (c cg a b : Nat) (g : List Grp), NetGo W wr B M nb N → N.Ok → a < N.nx.length → b < N.nx.length →
  exR.row wr F A e.l → grpR.row wr G Ag g → (∀ k, F k → k < B) → (∀ k, G k → k < B) → liveE (typesOf g) e → N.wt + 8 * e.cnt ≤ 1048576 → g.length ≤ 1048576 →
  Calls Tryz.prog 171 #[.pointer (some ⟨nb, 0, none⟩), e.val A c, .slice Ag g.length cg, .int .i64 a, .int .i64 b] wr fun r w' => r = .returned (.tuple #[]) ∧ NetGo W w' B M nb (layE (typesOf g) e a b N)
/-- The same, from where it begins. -/
def LayD (e : Ex) : Prop := ∀ (w : World) (B : Nat) (M F G : Nat → Prop) (nb : Nat) (N : NetD) (A Ag : Option Addr) (c cg a b : Nat) (g : List Grp), NetR w B M nb N → N.Ok → a < N.nx.length → b < N.nx.length →
  exR.row w F A e.l → grpR.row w G Ag g → (∀ k, F k → k < B) → (∀ k, G k → k < B) → liveE (typesOf g) e → N.wt + 8 * e.cnt ≤ 1048576 → g.length ≤ 1048576 →
  Calls Tryz.prog 171 #[.pointer (some ⟨nb, 0, none⟩), e.val A c, .slice Ag g.length cg, .int .i64 a, .int .i64 b] w fun r w' => r = .returned (.tuple #[]) ∧ NetGo w w' B M nb (layE (typesOf g) e a b N)
theorem LayC.of {e : Ex} (h : LayD e) : LayC e := by
  intro W wr B M F G nb N A Ag c cg a b g hg ok ha hb hr hgr hF hG hl hw hgl
  obtain ⟨M1, r1, g1, u1⟩ := hg
  refine (h wr B M1 F G nb N A Ag c cg a b g r1 ok ha hb hr hgr hF hG hl hw hgl).mono ?_
  rintro r w' ⟨rfl, hg⟩
  exact ⟨rfl, NetGo.step g1 u1 hg⟩
/-- What all arms of lay begin with. -/
structure LayS (w : World) (B : Nat) (M F G : Nat → Prop) (nb : Nat) (N : NetD) (A Ag : Option Addr) (k0 : Int) (nm : ByteArray) (l : List Ex) (c : Nat) (g : List Grp) (W : World) : Prop where
  go : NetGo W W B M nb N
  start : ∀ w' N', NetGo W w' B M nb N' → NetGo w w' B M nb N'
  box : BoxE w.heap.size k0 nm l.length A c W
  nM : ¬ M w.heap.size
  row : ∀ w' N', NetGo W w' B M nb N' → exR.row w' F A l
  grp : ∀ w' N', NetGo W w' B M nb N' → grpR.row w' G Ag g
theorem LayS.mk' {w : World} {B : Nat} {M F G : Nat → Prop} {nb : Nat} {N : NetD} {A Ag : Option Addr} {k0 : Int} {nm : ByteArray} {l : List Ex} {c : Nat} {g : List Grp} (h : NetR w B M nb N) (hr : exR.row w F A l) (hg : grpR.row w G Ag g) (hF : ∀ k, F k → k < B) (hG : ∀ k, G k → k < B) (t : TypeId) :
    LayS w B M F G nb N A Ag k0 nm l c g (w.alloc (.cells #[.int .i64 k0, .string nm, .slice A l.length c] t)) where
  go := NetGo.refl (h.pure ((Upd.refl _ _).alloc _))
  start := fun w' N' hn => NetGo.step Grow.same ((Upd.refl _ _).alloc _) hn
  box := BoxE.new _ _ _ _ _ _ _
  nM := fun hm => by have := (h.low _ hm).2; omega
  row := fun w' N' hn => Rp.row_upd (Rp.row_pure hr ((Upd.refl _ _).alloc _)) hn.upd (fun k _ hk hM => by have := hF k hk; have := (h.low k hM).1; omega)
  grp := fun w' N' hn => Rp.row_upd (Rp.row_pure hg ((Upd.refl _ _).alloc _)) hn.upd (fun k _ hk hM => by have := hG k hk; have := (h.low k hM).1; omega)
set_option maxRecDepth 100000 in
set_option maxHeartbeats 4000000 in
theorem lay_none (nm : ByteArray) (l : List Ex) : LayD (.mk 0 nm l) := by
  intro w B M F G nb N A Ag c cg a b g h ok ha hb hr hgr hF hG hl hw hgl
  have HL := As.mk (LayS.mk' (k0 := 0) (nm := nm) (l := l) (c := c) h hr hgr hF hG 92)
  have hwt : N.wt ≤ 1048576 := by omega
  have HOK := As.mk ok
  clear h hr hgr hF hG hl hw ok
  show Calls Tryz.prog 171 #[.pointer (some ⟨nb, 0, none⟩), .agg #[.int .i64 0, .string nm, .slice A l.length c], .slice Ag g.length cg, .int .i64 a, .int .i64 b] w _
  go_enter Tryz.func171, Tryz.ntmps171
  go_wp2_with (go_at_call 200; refine (free_go HL.out.go HOK.out hwt ha).mono ?_; rintro e w1 ⟨rfl, hn⟩; have HN := As.mk (HL.out.start _ _ hn); clear hn)
  go_end0
  refine ⟨rfl, ?_⟩
  have e1 : layE (typesOf g) (.mk 0 nm l) a b N = N.free a b := by rw [layE, if_pos rfl]
  rw [e1]
  exact HN.out
end Go.Proofs.YtofjodppljnlaaaGreatDoor
namespace Go.Proofs.YtofjodppljnlaaaGreatDoor
open Go.RowKit
set_option linter.unusedVariables false
set_option linter.unusedSimpArgs false
theorem own_cell {w : World} {e : TypeId} {g n cap : Nat} {inner : List Value} (h : w.ownsRow 0 e 1 (.slice (some ⟨g, 0, none⟩) n cap) n inner) {i : Nat} (hi : i < n) :
    ∃ u, inner[i]? = some u ∧ w.cell? ⟨g, i, none⟩ = some u ∧ w.frozen? ⟨g, i, none⟩ = false ∧ g < w.heap.size := by
  have hl : inner.length = n := by simpa using h.1
  obtain ⟨u, hu⟩ : ∃ u, inner[i]? = some u := ⟨_, List.getElem?_eq_getElem (by omega)⟩
  rcases h.2 with ⟨h, _⟩ | ⟨g', cap', cur, hv, _, hg, hle, _, hcs, htake⟩
  · cases h
  · simp at hv
    obtain ⟨rfl, rfl⟩ := hv
    have h2 := hu
    rw [← htake, List.getElem?_take] at h2
    split at h2
    · exact ⟨u, hu, by unfold World.cell?; simp only [hg]; simpa using h2, by simp [World.frozen?, hg], (Array.getElem?_eq_some_iff.1 hg).1⟩
    · cases h2
set_option maxRecDepth 100000 in
set_option maxHeartbeats 4000000 in
theorem lay_name (nm : ByteArray) (l : List Ex) : LayD (.mk 1 nm l) := by
  intro w B M F G nb N A Ag c cg a b g h ok ha hb hr hgr hF hG hl hw hgl
  have hlow := h.low
  have HL := As.mk (LayS.mk' (k0 := 1) (nm := nm) (l := l) (c := c) h hr hgr hF hG 92)
  have hcp := (Ex.mk 1 nm l).cnt_pos
  have hwt : N.wt ≤ 1048576 := by omega
  have hwt1 : N.place.wt ≤ 1048576 := by rw [NetD.wt_place]; omega
  have HOK := As.mk ok
  have ha1 : a < N.place.nx.length := by rw [NetD.place_len]; omega
  have HGB := As.mk hG
  have HLW := As.mk hlow
  clear h hr hgr hF hG hl hw ok hlow hcp
  show Calls Tryz.prog 171 #[.pointer (some ⟨nb, 0, none⟩), .agg #[.int .i64 1, .string nm, .slice A l.length c], .slice Ag g.length cg, .int .i64 a, .int .i64 b] w _
  go_enter Tryz.func171, Tryz.ntmps171
  go_wp2_with (first | (go_at_call 170; refine (place_go HL.out.go HOK.out hwt).mono ?_; rintro e w1 ⟨rfl, hn⟩; have HN1 := As.mk hn; clear hn) | (go_at_call 200; refine (free_go HN1.out (NetD.place_ok HOK.out) hwt1 ha1).mono ?_; rintro e w2 ⟨rfl, hn⟩; have HN2 := As.mk hn; clear hn; apply As.out))
  refine ⟨?_⟩
  have hby : (N.place.free a N.nx.length).bys.length = N.nx.length + 1 := by
    have := HOK.out.bl
    simp [NetD.place, NetD.free, this]
  have hnxl : (N.place.free a N.nx.length).nx.length = N.nx.length + 1 := by simp [NetD.place, NetD.free]
  obtain ⟨M2, ⟨lab, tv, bv, nv, vs, hs⟩, hg2, hu2⟩ := HN2.out
  have HG2 := As.mk hg2
  have HU2 := As.mk hu2
  have hbox := HL.out.box.go HN2.out HL.out.nM
  have HGR := As.mk (HL.out.grp _ _ HN2.out)
  have HST := As.mk HL.out.start
  have hLW : ∀ k, M2 k → B ≤ k := fun k hk => (hs.low k hk).1
  have HE := As.mk (show (N.place.free a N.nx.length).setBy N.nx.length (typesOf g nm) b = layE (typesOf g) (.mk 1 nm l) a b N by rw [layE, if_neg (by decide), if_pos rfl])
  generalize hN2 : N.place.free a N.nx.length = N2 at *
  generalize hcc : N.nx.length = cc at *
  obtain ⟨gb, cap, rfl, _, _⟩ := (show ∃ g cap, bv = .slice (some ⟨g, 0, none⟩) N2.bys.length cap ∧ 0 ≤ g ∧ g < w2.heap.size by
    obtain ⟨inner, h1, _⟩ := hs.cb.own
    have := h1.form (by omega)
    exact this)
  obtain ⟨hb0, cap2, rfl, _, _⟩ := (show ∃ g cap, nv = .slice (some ⟨g, 0, none⟩) N2.nx.length cap ∧ 0 ≤ g ∧ g < w2.heap.size by
    obtain ⟨inner, h1, _⟩ := hs.cn.own
    have := h1.form (by omega)
    exact this)
  obtain ⟨u, q2, q3, hgl2⟩ : ∃ u, w2.cell? ⟨gb, cc, none⟩ = some u ∧ w2.frozen? ⟨gb, cc, none⟩ = false ∧ gb < w2.heap.size := by
    obtain ⟨inner, h1, _⟩ := hs.cb.own
    obtain ⟨u, _, h⟩ := own_cell h1 (i := cc) (by omega)
    exact ⟨u, h⟩
  have q1 : w2.cell? ⟨nb, 1, none⟩ = some (.slice (some ⟨gb, 0, none⟩) N2.bys.length cap) := by unfold World.cell?; simp only [hs.blk]; rfl
  have q4 : w2.cell? ⟨w.heap.size, 1, none⟩ = some (.string nm) := hbox.2.1
  have hnl := (hs.low nb hs.nbM.1).2
  have hbl2 := hbox.2.2.2
  have HSK : As (∀ w1, Pure w2.drew w1 → w1.cell? ⟨nb, 1, none⟩ = some (.slice (some ⟨gb, 0, none⟩) N2.bys.length cap) ∧ w1.cell? ⟨gb, cc, none⟩ = some u ∧ w1.frozen? ⟨gb, cc, none⟩ = false ∧ w1.cell? ⟨w.heap.size, 1, none⟩ = some (.string nm)) := ⟨by
    intro w1 hU
    exact ⟨(hU.cell hnl (fun h => h)).trans q1, (hU.cell hgl2 (fun h => h)).trans q2, (hU.frozen hgl2 (fun h => h)).trans q3, (hU.cell hbl2 (fun h => h)).trans q4⟩⟩
  have HS2 := As.mk hs
  have HLW2 := As.mk hLW
  have HQ := As.mk (And.intro q1 (And.intro q2 (And.intro q3 q4)))
  have hnfi : (cc : Int) < (N2.bys.length : Int) := by omega
  have hnfj : (cc : Int) < (N2.nx.length : Int) := by omega
  have HBY := As.mk hby
  have HNX := As.mk hnxl
  clear hs hLW hg2 hu2 q1 q2 q3 q4 hbox hby hnxl hN2 hcc
  go_wp2
  have q2 := HQ.out.2.1
  refine wp_region_T (P := Tryz.prog) (fun w' => w'.cell? ⟨nb, 1, none⟩ = some (.slice (some ⟨gb, 0, none⟩) N2.bys.length cap) ∧ w'.cell? ⟨gb, cc, none⟩ = some u ∧ w'.frozen? ⟨gb, cc, none⟩ = false ∧ w'.cell? ⟨w.heap.size, 1, none⟩ = some (.string nm)) 10 (by kernel_rfl) ?_ (fun hHeld => ?_)
  · first | exact HQ.out | exact HSK.out _ HU3.out | exact HSK.out _ (Upd.refl _ _)
  refine zT 0 ?_
  (try simp only [Act.put, sA, sB, sC])
  refine zT 1 ?_
  (try simp only [Act.put, sA, sB, sC])
  refine zT 2 ?_
  (try simp only [Act.put, sA, sB, sC])
  refine zT 3 ?_
  (try simp only [Act.put, sA, sB, sC])
  refine zT 4 ?_
  (try simp only [Act.put, sA, sB, sC])
  refine zT 5 ?_
  (try simp only [Act.put, sA, sB, sC])
  refine zT 6 ?_
  (try simp only [Act.put, sA, sB, sC])
  refine zT 7 ?_
  (try simp only [Act.put, sA, sB, sC])
  refine oT 8 (fun K hK => ?_)
  go_simp
  (go_at_call 199; refine (types6_calls nm (Rp.row_pure HGR.out ((Upd.refl _ _).drew)) hgl).mono ?_; rintro e w3 ⟨⟨A1, c1, rfl, hc1, hrow⟩, hu⟩; have HU3 := As.mk hu; have HR3 := As.mk hrow; have HC3 := As.mk hc1; obtain ⟨s1, s2, s3, s4⟩ := HSK.out _ hu; clear hu hrow hc1)
  refine hK.out _ _ (fun _ => by first | exact HQ.out | exact HSK.out _ HU3.out | exact HSK.out _ (Upd.refl _ _)) (fun hHeld => ?_)
  replace hHeld := hHeld (by decide)
  clear hK K
  (try simp only [Act.put, sA, sB, sC])
  refine zT 9 ?_
  (try simp only [Act.put, sA, sB, sC])
  refine oT 10 (fun K hK => ?_)
  go_simp
  refine hK.out _ _ (fun h => absurd rfl h) (fun hHeld => ?_)
  clear hK K
  (try simp only [Act.put, sA, sB, sC])
  refine wpAnyT_done (by kernel_rfl) ?_ _
  have hs3 := HS2.out.pure (((Upd.refl _ _).drew).trans HU3.out (fun _ _ h => h))
  obtain ⟨hs4, hu4⟩ := NetS.by2 (c := cc) hs3 (by omega) (Rp.row_fp (Rp.row_pure HR3.out HU3.out) HGB.out) HC3.out
  rw [List.length_set] at hs4
  have hP23 : Pure w2 w3 := ((Upd.refl _ _).drew).trans HU3.out (fun _ _ h => h)
  have hbx4 : (w3.setCell ⟨gb, cc, none⟩ (.slice A1 (typesOf g nm).length c1)).heap.size = w3.heap.size := by simp [World.setCell]
  have HU4 := As.mk (show Upd M2 w2 (w3.setCell ⟨gb, cc, none⟩ (.slice A1 (typesOf g nm).length c1)) from Upd.trans (hP23.mono (fun _ _ h => h.elim)) hu4 (fun _ _ h => h))
  generalize hw4 : w3.setCell ⟨gb, cc, none⟩ (.slice A1 (typesOf g nm).length c1) = w4 at *
  have q1 : w4.cell? ⟨nb, 2, none⟩ = some (.slice (some ⟨hb0, 0, none⟩) N2.nx.length cap2) := by unfold World.cell?; simp only [hs4.blk]; rfl
  obtain ⟨u2, q2', q3, hgl4⟩ : ∃ u, w4.cell? ⟨hb0, cc, none⟩ = some u ∧ w4.frozen? ⟨hb0, cc, none⟩ = false ∧ hb0 < w4.heap.size := by
    obtain ⟨inner, h1, _⟩ := hs4.cn.own
    obtain ⟨u, _, h⟩ := own_cell h1 (i := cc) (by omega)
    exact ⟨u, h⟩
  obtain ⟨hs5, hu5⟩ := NetS.nx2 (c := cc) (x := (b : Int)) hs4 (by show cc < N2.nx.length; omega)
  have HS5 := As.mk hs5
  have HU5 := As.mk hu5
  have HSZ := As.mk hP23.size
  clear hs3 hs4 hu4 hs5 hu5 hP23 hw4 hbx4 q2 s1 s2 s3 s4
  go_wp2
  go_end0
  refine ⟨rfl, ?_⟩
  obtain ⟨a1, b1⟩ := Grow.comp HG2.out HU2.out Grow.same (HU4.out.trans HU5.out (fun _ _ h => h))
  have hfin : NetGo (w.alloc (.cells #[.int .i64 1, .string nm, .slice A l.length c] 92)) (w4.setCell ⟨hb0, cc, none⟩ (.int .i64 b)) B M nb (N2.setBy cc (typesOf g nm) b) := ⟨_, ⟨_, _, _, _, _, HS5.out⟩, a1, b1⟩
  rw [← HE.out]
  exact HST.out _ _ hfin
end Go.Proofs.YtofjodppljnlaaaGreatDoor
namespace Go.Proofs.YtofjodppljnlaaaGreatDoor
open Go.RowKit
set_option linter.unusedVariables false
set_option linter.unusedSimpArgs false
theorem ex_at2 {w : World} {F : Nat → Prop} {b o : Nat} {xs : List Ex} (h : exR.row w F (some ⟨b, o, none⟩) xs) {j : Nat} {x : Ex} (hx : xs[j]? = some x) :
    ∃ A1 c1, b < w.heap.size ∧ w.cell? ⟨b, o + j * 3, none⟩ = some (.int .i64 x.k) ∧ w.cell? ⟨b, o + j * 3 + 1, none⟩ = some (.string x.name) ∧ w.cell? ⟨b, o + j * 3 + 2, none⟩ = some (.slice A1 x.l.length c1) ∧ x.l.length ≤ c1 ∧ exR.row w F A1 x.l := by
  obtain ⟨b', o', A1, c1, hA, _, h1, h2, h3, h4, h5, h6⟩ := ex_at h hx
  cases hA
  exact ⟨A1, c1, h1, h2, h3, h4, h5, h6⟩
theorem drop_at {α : Type} {l : List α} {k : Nat} {x : α} (hx : l[k]? = some x) : l.drop k = x :: l.drop (k + 1) := by
  obtain ⟨h, rfl⟩ := List.getElem?_eq_some_iff.1 hx
  exact List.drop_eq_getElem_cons h
/-- Where the parts stand. -/
structure SeqS (g : List Grp) (l : List Ex) (a b : Nat) (N1 : NetD) (R : NetD) : Prop where
  ok : N1.Ok
  ha : a < N1.nx.length
  hb : b < N1.nx.length
  wt : N1.wt + 8 * Ex.cnts l + 1 ≤ 1048576
  live : liveSeq (typesOf g) l
  eq : laySeq (typesOf g) l a b N1 = R
theorem SeqS.next {g : List Grp} {l : List Ex} {x : Ex} {a b : Nat} {N1 R : NetD} (h : SeqS g (x :: l) a b N1 R) :
    N1.wt ≤ 1048576 ∧ N1.place.Ok ∧ a < N1.place.nx.length ∧ N1.nx.length < N1.place.nx.length ∧ liveE (typesOf g) x ∧ N1.place.wt + 8 * x.cnt ≤ 1048576 ∧ SeqS g l N1.nx.length b (layE (typesOf g) x a N1.nx.length N1.place) R := by
  obtain ⟨ok, ha, hb, wt, lv, eq⟩ := h
  rw [Ex.cnts] at wt
  rw [liveSeq] at lv
  rw [laySeq] at eq
  have hl := N1.place_len
  have hw := N1.wt_place
  have hcp := x.cnt_pos
  have hL := laid_E (typesOf g) x N1.place a N1.nx.length (NetD.place_ok ok) (by omega) (by omega)
  have hle := hL.le
  have hwt := layE_wt (typesOf g) x a N1.nx.length N1.place
  exact ⟨by omega, NetD.place_ok ok, by omega, by omega, lv.1, by omega, ⟨hL.ok, by omega, by omega, by omega, lv.2, eq⟩⟩
set_option maxRecDepth 100000 in
set_option maxHeartbeats 4000000 in
theorem lay_seq (nm : ByteArray) (l : List Ex) (hI : ∀ x ∈ l, LayC x) : LayD (.mk 2 nm l) := by
  intro w B M F G nb N A Ag c cg a b g h ok ha hb hr hgr hF hG hl hw hgl
  have HL := As.mk (LayS.mk' (k0 := 2) (nm := nm) (l := l) (c := c) h hr hgr hF hG 92)
  have HI := As.mk hI
  have HF := As.mk hF
  have HG := As.mk hG
  have hll : l.length ≤ 1048576 := by have := cnts_len l; rw [Ex.cnt] at hw; omega
  have HSS : As (SeqS g (l.drop 0) a b N (layE (typesOf g) (.mk 2 nm l) a b N)) := ⟨ok, ha, hb, by rw [Ex.cnt] at hw; rw [List.drop_zero]; omega, by rw [List.drop_zero]; rw [liveE, if_neg (by decide), if_neg (by decide), if_pos rfl] at hl; exact hl, by rw [List.drop_zero, layE, if_neg (by decide), if_neg (by decide), if_pos rfl]⟩
  generalize hR : layE (typesOf g) (.mk 2 nm l) a b N = R at *
  clear h hr hgr hF hG hl hw ok hI hR ha hb
  show Calls Tryz.prog 171 #[.pointer (some ⟨nb, 0, none⟩), .agg #[.int .i64 2, .string nm, .slice A l.length c], .slice Ag g.length cg, .int .i64 a, .int .i64 b] w _
  go_enter Tryz.func171, Tryz.ntmps171
  go_wp2
  go_loopg [11, 3] l.length (fun gg i av wr => ∃ (k a1 : Nat) (N1 : NetD), k + gg = l.length ∧ i = .int .i64 k ∧ av = .int .i64 a1 ∧ As (SeqS g (l.drop k) a1 b N1 R) ∧ As (NetGo (w.alloc (.cells #[.int .i64 2, .string nm, .slice A l.length c] 92)) wr B M nb N1))
  case atStart => exact ⟨0, a, N, by omega, rfl, rfl, HSS, ⟨HL.out.go⟩⟩
  case round =>
    obtain ⟨k, a1, N1, hk, rfl, rfl, HS, HN⟩ := hrel
    obtain ⟨q0, q1, q2, q3⟩ := HL.out.box.go HN.out HL.out.nM
    by_cases hlt : k < l.length
    · obtain ⟨x, hx⟩ : ∃ x, l[k]? = some x := ⟨_, List.getElem?_eq_getElem hlt⟩
      obtain ⟨bb, o, _, _, rfl, _, _, _, _, _, _, _⟩ := ex_at (HL.out.row _ _ HN.out) hx
      obtain ⟨g1, rfl⟩ : ∃ m, gk = m + 1 := ⟨gk - 1, by omega⟩
      have hss := HS.out
      rw [drop_at hx] at hss
      obtain ⟨w1, ok1, ha1, hc1, lv1, wt1, hss2⟩ := hss.next
      have HOK := As.mk HS.out.ok
      have HOK1 := As.mk ok1
      have HA1 := As.mk ha1
      have HC1 := As.mk hc1
      have HLV := As.mk lv1
      have HWT := As.mk wt1
      have HW1 := As.mk w1
      have HS2 := As.mk hss2
      have HX := As.mk hx
      have HK := As.mk hk
      clear hss w1 ok1 ha1 hc1 lv1 wt1 hss2 hx hk
      go_wp2_with (go_at_call 170; refine (place_go HN.out HOK.out HW1.out).mono ?_; rintro e w1 ⟨rfl, hn⟩; have HN1 := As.mk hn; clear hn; apply As.out)
      refine ⟨?_⟩
      clear q0 q1 q2 q3
      obtain ⟨q0, q1, q2, q3⟩ := HL.out.box.go HN1.out HL.out.nM
      obtain ⟨A1, c1, hbl, d0, d1, d2, hle1, hrow1⟩ := ex_at2 (HL.out.row _ _ HN1.out) HX.out
      have HR1 := As.mk hrow1
      have HG1 := As.mk (HL.out.grp _ _ HN1.out)
      clear hrow1
      go_wp2_with (go_at_call 171; refine (HI.out x (List.mem_of_getElem? HX.out) _ _ B M F G nb _ A1 Ag c1 cg _ _ g HN1.out HOK1.out HA1.out HC1.out HR1.out HG1.out HF.out HG.out HLV.out HWT.out hgl).mono ?_; rintro e w2 ⟨rfl, hn⟩; have HN2 := As.mk hn; clear hn)
      go_roundg g1
      case measure => omega
      case rel => exact ⟨k + 1, _, _, by have := HK.out; omega, by go_num, rfl, HS2, HN2⟩
    · have hkl : k = l.length := by omega
      subst hkl
      have hss := HS.out
      rw [List.drop_length] at hss
      have HOK := As.mk hss.ok
      have HA := As.mk hss.ha
      have HW := As.mk (show N1.wt ≤ 1048576 by have := hss.wt; omega)
      have HE := As.mk hss.eq
      clear hss
      go_wp2_with (go_at_call 200; refine (free_go HN.out HOK.out HW.out HA.out).mono ?_; rintro e w1 ⟨rfl, hn⟩; have HN1 := As.mk hn; clear hn)
      go_end0
      refine ⟨rfl, ?_⟩
      have e1 := HE.out
      rw [laySeq] at e1
      rw [← e1]
      exact HL.out.start _ _ HN1.out
/-- Where the choices stand. -/
structure AltS (g : List Grp) (l : List Ex) (a b : Nat) (N1 : NetD) (R : NetD) : Prop where
  ok : N1.Ok
  ha : a < N1.nx.length
  hb : b < N1.nx.length
  wt : N1.wt + 8 * Ex.cnts l ≤ 1048576
  live : liveSeq (typesOf g) l
  eq : layAlt (typesOf g) l a b N1 = R
theorem AltS.next {g : List Grp} {l : List Ex} {x : Ex} {a b : Nat} {N1 R : NetD} (h : AltS g (x :: l) a b N1 R) :
    liveE (typesOf g) x ∧ N1.wt + 8 * x.cnt ≤ 1048576 ∧ AltS g l a b (layE (typesOf g) x a b N1) R := by
  obtain ⟨ok, ha, hb, wt, lv, eq⟩ := h
  rw [Ex.cnts] at wt
  rw [liveSeq] at lv
  rw [layAlt] at eq
  have hL := laid_E (typesOf g) x N1 a b ok ha hb
  have hle := hL.le
  have hwt := layE_wt (typesOf g) x a b N1
  exact ⟨lv.1, by omega, ⟨hL.ok, by omega, by omega, by omega, lv.2, eq⟩⟩
set_option maxRecDepth 100000 in
set_option maxHeartbeats 4000000 in
theorem lay_alt (nm : ByteArray) (l : List Ex) (hI : ∀ x ∈ l, LayC x) : LayD (.mk 3 nm l) := by
  intro w B M F G nb N A Ag c cg a b g h ok ha hb hr hgr hF hG hl hw hgl
  have HL := As.mk (LayS.mk' (k0 := 3) (nm := nm) (l := l) (c := c) h hr hgr hF hG 92)
  have HI := As.mk hI
  have HF := As.mk hF
  have HG := As.mk hG
  have hll : l.length ≤ 1048576 := by have := cnts_len l; rw [Ex.cnt] at hw; omega
  have HSS : As (AltS g (l.drop 0) a b N (layE (typesOf g) (.mk 3 nm l) a b N)) := ⟨ok, ha, hb, by rw [Ex.cnt] at hw; rw [List.drop_zero]; omega, by rw [List.drop_zero]; rw [liveE, if_neg (by decide), if_neg (by decide), if_neg (by decide), if_pos rfl] at hl; exact hl.2, by rw [List.drop_zero, layE, if_neg (by decide), if_neg (by decide), if_neg (by decide), if_pos rfl]⟩
  generalize hR : layE (typesOf g) (.mk 3 nm l) a b N = R at *
  clear h hr hgr hF hG hl hw ok hI hR ha hb
  show Calls Tryz.prog 171 #[.pointer (some ⟨nb, 0, none⟩), .agg #[.int .i64 3, .string nm, .slice A l.length c], .slice Ag g.length cg, .int .i64 a, .int .i64 b] w _
  go_enter Tryz.func171, Tryz.ntmps171
  go_wp2
  go_loopg [13] l.length (fun gg i wr => ∃ (k : Nat) (N1 : NetD), k + gg = l.length ∧ i = .int .i64 k ∧ As (AltS g (l.drop k) a b N1 R) ∧ As (NetGo (w.alloc (.cells #[.int .i64 3, .string nm, .slice A l.length c] 92)) wr B M nb N1))
  case atStart => exact ⟨0, N, by omega, rfl, HSS, ⟨HL.out.go⟩⟩
  case round =>
    obtain ⟨k, N1, hk, rfl, HS, HN⟩ := hrel
    obtain ⟨q0, q1, q2, q3⟩ := HL.out.box.go HN.out HL.out.nM
    by_cases hlt : k < l.length
    · obtain ⟨x, hx⟩ : ∃ x, l[k]? = some x := ⟨_, List.getElem?_eq_getElem hlt⟩
      obtain ⟨bb, o, A1, c1, rfl, _, hbl, d0, d1, d2, hle1, hrow1⟩ := ex_at (HL.out.row _ _ HN.out) hx
      obtain ⟨g1, rfl⟩ : ∃ m, gk = m + 1 := ⟨gk - 1, by omega⟩
      have hss := HS.out
      rw [drop_at hx] at hss
      obtain ⟨lv1, wt1, hss2⟩ := hss.next
      have HOK := As.mk HS.out.ok
      have HA1 := As.mk HS.out.ha
      have HC1 := As.mk HS.out.hb
      have HLV := As.mk lv1
      have HWT := As.mk wt1
      have HS2 := As.mk hss2
      have HX := As.mk hx
      have HK := As.mk hk
      have HR1 := As.mk hrow1
      have HG1 := As.mk (HL.out.grp _ _ HN.out)
      clear hss lv1 wt1 hss2 hx hk hrow1
      go_wp2_with (go_at_call 171; refine (HI.out x (List.mem_of_getElem? HX.out) _ _ B M F G nb _ A1 Ag c1 cg _ _ g HN.out HOK.out HA1.out HC1.out HR1.out HG1.out HF.out HG.out HLV.out HWT.out hgl).mono ?_; rintro e w2 ⟨rfl, hn⟩; have HN2 := As.mk hn; clear hn)
      go_roundg g1
      case measure => omega
      case rel => exact ⟨k + 1, _, by have := HK.out; omega, by go_num, HS2, HN2⟩
    · have hkl : k = l.length := by omega
      subst hkl
      have hss := HS.out
      rw [List.drop_length] at hss
      have HE := As.mk hss.eq
      clear hss
      go_wp2
      go_end0
      refine ⟨rfl, ?_⟩
      have e1 := HE.out
      rw [layAlt] at e1
      rw [← e1]
      exact HL.out.start _ _ HN.out
theorem place_go2 {W wr : World} {B : Nat} {M : Nat → Prop} {nb n : Nat} {N : NetD} (h : NetGo W wr B M nb N) (ok : N.Ok) (hb : N.wt ≤ 1048576) (hn : N.nx.length = n) :
    Calls Tryz.prog 170 #[.pointer (some ⟨nb, 0, none⟩)] wr fun r w' => r = .returned (.int .i64 n) ∧ NetGo W w' B M nb N.place := hn ▸ place_go h ok hb
set_option maxRecDepth 100000 in
set_option maxHeartbeats 4000000 in
theorem lay_sign (k0 : Int) (nm : ByteArray) (l : List Ex) (h0 : k0 ≠ 0) (h1 : k0 ≠ 1) (h2 : k0 ≠ 2) (h3 : k0 ≠ 3) (hI : ∀ x ∈ l, LayC x) : LayD (.mk k0 nm l) := by
  intro w B M F G nb N A Ag c cg a b g h ok ha hb hr hgr hF hG hl hw hgl
  have HL := As.mk (LayS.mk' (k0 := k0) (nm := nm) (l := l) (c := c) h hr hgr hF hG 92)
  have HF := As.mk hF
  have HG := As.mk hG
  rw [liveE, if_neg h0, if_neg h1, if_neg h2, if_neg h3] at hl
  have HE := As.mk (show layE (typesOf g) (.mk k0 nm l) a b N = _ by rw [layE, if_neg h0, if_neg h1, if_neg h2, if_neg h3])
  obtain ⟨x, r, rfl⟩ : ∃ x r, l = x :: r := by
    cases l with
    | nil => exact absurd rfl hl.1
    | cons x r => exact ⟨x, r, rfl⟩
  have HI := As.mk (hI x (List.mem_cons_self ..))
  have HLV := As.mk (show liveE (typesOf g) x by have := hl.2; rw [liveSeq] at this; exact this.1)
  rw [Ex.cnt, Ex.cnts] at hw
  obtain ⟨bb, o, _, _, rfl, _, _, _, _, _, _, _⟩ := ex_at (j := 0) (x := x) hr rfl
  have ok1 := NetD.place_ok ok
  have ok2 := NetD.place_ok ok1
  have l1 := N.place_len
  have l2 := N.place.place_len
  have ok3 := NetD.free_ok ok2 (a := a) (b := N.nx.length) (by omega)
  have l3 := N.place.place.free_len a N.nx.length
  have w1 := N.wt_place
  have w2 := N.place.wt_place
  have w3 := N.place.place.wt_free a N.nx.length
  have hL := laid_E (typesOf g) x (N.place.place.free a N.nx.length) N.nx.length (N.nx.length + 1) ok3 (by omega) (by omega)
  have l4 := hL.le
  have ok4 := hL.ok
  have w4 := layE_wt (typesOf g) x N.nx.length (N.nx.length + 1) (N.place.place.free a N.nx.length)
  have HX4 := As.mk (show layOne (typesOf g) (x :: r) N.nx.length (N.nx.length + 1) (N.place.place.free a N.nx.length) = layE (typesOf g) x N.nx.length (N.nx.length + 1) (N.place.place.free a N.nx.length) by rw [layOne])
  rw [HX4.out] at HE
  generalize hN4 : layE (typesOf g) x N.nx.length (N.nx.length + 1) (N.place.place.free a N.nx.length) = N4 at *
  have ok5 := NetD.free_ok ok4 (a := N.nx.length + 1) (b := b) (by omega)
  have l5 := N4.free_len (N.nx.length + 1) b
  have w5 := N4.wt_free (N.nx.length + 1) b
  have ok6 := NetD.free_ok ok5 (a := N.nx.length + 1) (b := N.nx.length) (by omega)
  have l6 := (N4.free (N.nx.length + 1) b).free_len (N.nx.length + 1) N.nx.length
  have w6 := (N4.free (N.nx.length + 1) b).wt_free (N.nx.length + 1) N.nx.length
  have HOK := As.mk (And.intro ok (And.intro ok1 (And.intro ok2 (And.intro ok3 (And.intro ok4 (And.intro ok5 ok6))))))
  have HW : As (N.wt ≤ 1048576 ∧ N.place.wt ≤ 1048576 ∧ N.place.place.wt ≤ 1048576 ∧ (N.place.place.free a N.nx.length).wt + 8 * x.cnt ≤ 1048576 ∧ N4.wt ≤ 1048576 ∧ (N4.free (N.nx.length + 1) b).wt ≤ 1048576 ∧ ((N4.free (N.nx.length + 1) b).free (N.nx.length + 1) N.nx.length).wt ≤ 1048576) := ⟨by omega, by omega, by omega, by omega, by omega, by omega, by omega⟩
  have HA : As (a < N.place.place.nx.length ∧ N.nx.length < (N.place.place.free a N.nx.length).nx.length ∧ N.nx.length + 1 < (N.place.place.free a N.nx.length).nx.length ∧ N.nx.length + 1 < N4.nx.length ∧ N.nx.length + 1 < (N4.free (N.nx.length + 1) b).nx.length ∧ a < (N4.free (N.nx.length + 1) b).nx.length ∧ a < ((N4.free (N.nx.length + 1) b).free (N.nx.length + 1) N.nx.length).nx.length) := ⟨by omega, by omega, by omega, by omega, by omega, by omega, by omega⟩
  have HP1 := As.mk l1
  have HE4 := As.mk hN4
  generalize hd : N.nx.length + 1 = dd at *
  clear hd
  clear h hr hgr hF hG hl hw ok hI ha hb ok1 ok2 ok3 ok4 ok5 ok6 l1 l2 l3 l4 l5 l6 w1 w2 w3 w4 w5 w6 hL hN4 HX4
  show Calls Tryz.prog 171 #[.pointer (some ⟨nb, 0, none⟩), .agg #[.int .i64 k0, .string nm, .slice (some ⟨bb, o, none⟩) (x :: r).length c], .slice Ag g.length cg, .int .i64 a, .int .i64 b] w _
  go_enter Tryz.func171, Tryz.ntmps171
  go_wp2_with (go_at_call 170; refine (place_go HL.out.go HOK.out.1 HW.out.1).mono ?_; rintro e w1 ⟨rfl, hn⟩; have HN1 := As.mk hn; clear hn; apply As.out)
  refine ⟨?_⟩
  clear h0 h1 h2 h3
  go_wp2_with (go_at_call 170; refine (place_go2 HN1.out HOK.out.2.1 HW.out.2.1 HP1.out).mono ?_; rintro e w2 ⟨rfl, hn⟩; have HN2 := As.mk hn; clear hn; apply As.out)
  refine ⟨?_⟩
  go_wp2_with (go_at_call 200; refine (free_go HN2.out HOK.out.2.2.1 HW.out.2.2.1 HA.out.1).mono ?_; rintro e w3 ⟨rfl, hn⟩; have HN3 := As.mk hn; clear hn; apply As.out)
  refine ⟨?_⟩
  obtain ⟨q0, q1, q2, q3⟩ := HL.out.box.go HN3.out HL.out.nM
  obtain ⟨A1, c1, hbl, d0, d1, d2, hle1, hrow1⟩ := ex_at2 (j := 0) (x := x) (HL.out.row _ _ HN3.out) rfl
  simp only [Nat.zero_mul, Nat.add_zero] at d0 d1 d2
  have HR1 := As.mk hrow1
  have HG1 := As.mk (HL.out.grp _ _ HN3.out)
  clear hrow1
  go_wp2_with (go_at_call 171; refine (HI.out _ _ B M F G nb _ A1 Ag c1 cg _ _ g HN3.out HOK.out.2.2.2.1 HA.out.2.1 HA.out.2.2.1 HR1.out HG1.out HF.out HG.out HLV.out HW.out.2.2.2.1 hgl).mono ?_; rintro e w4 ⟨rfl, hn⟩; rw [HE4.out] at hn; have HN4 := As.mk hn; clear hn; apply As.out)
  refine ⟨?_⟩
  clear q0 q1 q2 q3 hbl d0 d1 d2
  go_wp2_with (go_at_call 200; refine (free_go HN4.out HOK.out.2.2.2.2.1 HW.out.2.2.2.2.1 HA.out.2.2.2.1).mono ?_; rintro e w5 ⟨rfl, hn⟩; have HN5 := As.mk hn; clear hn; apply As.out)
  refine ⟨?_⟩
  obtain ⟨q0, q1, q2, q3⟩ := HL.out.box.go HN5.out HL.out.nM
  by_cases h6 : k0 = 6
  · subst h6
    go_wp2_with (go_at_call 200; refine (free_go HN5.out HOK.out.2.2.2.2.2.1 HW.out.2.2.2.2.2.1 HA.out.2.2.2.2.2.1).mono ?_; rintro e w6 ⟨rfl, hn⟩; have HN6 := As.mk hn; clear hn)
    go_end0
    refine ⟨rfl, ?_⟩
    have e1 := HE.out
    simp at e1
    rw [e1]
    exact HL.out.start _ _ HN6.out
  · by_cases h5 : k0 = 5
    · subst h5
      go_wp2_with (go_at_call 200; refine (free_go HN5.out HOK.out.2.2.2.2.2.1 HW.out.2.2.2.2.2.1 HA.out.2.2.2.2.1).mono ?_; rintro e w6 ⟨rfl, hn⟩; have HN6 := As.mk hn; clear hn; apply As.out)
      refine ⟨?_⟩
      clear q0 q1 q2 q3
      obtain ⟨q0, q1, q2, q3⟩ := HL.out.box.go HN6.out HL.out.nM
      go_wp2
      go_end0
      refine ⟨rfl, ?_⟩
      have e1 := HE.out
      simp at e1
      rw [e1]
      exact HL.out.start _ _ HN6.out
    · have HZ := As.mk (And.intro h5 h6)
      have h5' : (k0 == 5) = false := by simp [h5]
      have h6' : (k0 == 6) = false := by simp [h6]
      clear h5 h6
      go_wp2_with (go_at_call 200; refine (free_go HN5.out HOK.out.2.2.2.2.2.1 HW.out.2.2.2.2.2.1 HA.out.2.2.2.2.1).mono ?_; rintro e w6 ⟨rfl, hn⟩; have HN6 := As.mk hn; clear hn; apply As.out)
      refine ⟨?_⟩
      clear q0 q1 q2 q3
      obtain ⟨q0, q1, q2, q3⟩ := HL.out.box.go HN6.out HL.out.nM
      go_wp2_with (go_at_call 200; refine (free_go HN6.out HOK.out.2.2.2.2.2.2 HW.out.2.2.2.2.2.2 HA.out.2.2.2.2.2.2).mono ?_; rintro e w7 ⟨rfl, hn⟩; have HN7 := As.mk hn; clear hn)
      go_end0
      refine ⟨rfl, ?_⟩
      have e1 := HE.out
      simp [HZ.out.1, HZ.out.2] at e1
      rw [e1]
      exact HL.out.start _ _ HN7.out
theorem lay_all : ∀ (n : Nat) (e : Ex), e.cnt ≤ n → LayD e := by
  intro n
  induction n with
  | zero => intro e he; have := e.cnt_pos; omega
  | succ n ih =>
    intro e he
    obtain ⟨k0, nm, l⟩ := e
    have hI : ∀ x ∈ l, LayC x := fun x hx => LayC.of (ih x (by have := Ex.cnt_mem hx; rw [Ex.cnt] at he; omega))
    by_cases h0 : k0 = 0
    · subst h0; exact lay_none nm l
    · by_cases h1 : k0 = 1
      · subst h1; exact lay_name nm l
      · by_cases h2 : k0 = 2
        · subst h2; exact lay_seq nm l hI
        · by_cases h3 : k0 = 3
          · subst h3; exact lay_alt nm l hI
          · exact lay_sign k0 nm l h0 h1 h2 h3 hI
end Go.Proofs.YtofjodppljnlaaaGreatDoor
namespace Go.Proofs.YtofjodppljnlaaaGreatDoor
open Go.RowKit
set_option linter.unusedVariables false
set_option linter.unusedSimpArgs false
/-- The net as it is read. -/
def NetV (w : World) (nb : Nat) (N : NetD) : Prop := ∃ At ct Ab cb An cn, w.heap[nb]? = some (.cells #[.slice At N.tos.length ct, .slice Ab N.bys.length cb, .slice An N.nx.length cn] 229 (0, 0)) ∧ intR.slice.row w AnyB At N.tos ∧ intR.slice.row w AnyB Ab N.bys ∧ intR.row w AnyB An N.nx
theorem NetV.pure {w w1 : World} {nb : Nat} {N : NetD} (h : NetV w nb N) (hu : Pure w w1) : NetV w1 nb N := by
  obtain ⟨At, ct, Ab, cb, An, cn, h0, h1, h2, h3⟩ := h
  exact ⟨At, ct, Ab, cb, An, cn, (hu.block _ (Array.getElem?_eq_some_iff.1 h0).1 (fun h => h)).trans h0, Rp.row_pure h1 hu, Rp.row_pure h2 hu, Rp.row_pure h3 hu⟩
theorem CT.own' {w : World} {M : Nat → Prop} {lab : Nat → Nat} {v : Value} {fs : List (List Int)} {vs : List Value} (h : CT w M lab v fs vs) : intR.slice.own 83 w AnyB v fs := by
  have hl : vs.length = fs.length := by simpa using h.own.1
  refine ⟨vs, h.own, fun _ _ => trivial, by simpa [Rp.slice] using hl, fun j x hx => ?_⟩
  have hj : j < vs.length := by rw [hl]; exact (List.getElem?_eq_some_iff.1 hx).1
  obtain ⟨ho, _⟩ := h.each j vs[j] x (List.getElem?_eq_getElem hj) hx
  obtain ⟨A, c, he, hlc, hr⟩ := Rp.own_slice ho
  have e1 : (vs.drop (j * intR.slice.sz)).take intR.slice.sz = [vs[j]] := by
    show (vs.drop (j * 1)).take 1 = _
    rw [Nat.mul_one, List.drop_eq_getElem_cons hj]
    rfl
  rw [e1, he]
  refine ⟨A, c, rfl, hlc, Rp.row_fp hr (fun k hk => ⟨trivial, ?_⟩)⟩
  intro hk'
  obtain ⟨inner, h7, _⟩ := ho
  exact own_ne h7 h.own (by decide) k hk hk'.symm
theorem NetS.view {w : World} {B : Nat} {M : Nat → Prop} {lab : Nat → Nat} {nb : Nat} {N : NetD} {tv bv nv : Value} {vs : List Value} (h : NetS w B M lab nb N tv bv nv vs) : NetV w nb N := by
  obtain ⟨At, ct, rfl, _, h1⟩ := Rp.own_slice h.ct.own'
  obtain ⟨Ab, cb, rfl, _, h2⟩ := Rp.own_slice h.cb.own
  obtain ⟨An, cn, rfl, _, h3⟩ := Rp.own_slice h.cn.own
  exact ⟨At, ct, Ab, cb, An, cn, h.blk, Rp.row_fp h1 (fun _ _ => trivial), Rp.row_fp h2 (fun _ _ => trivial), Rp.row_fp h3 (fun _ _ => trivial)⟩
def netE : NetD := ⟨[], [], []⟩
theorem netE_ok : netE.Ok := ⟨rfl, rfl, fun p q hq => by simp [netE] at hq, fun p h => by simp [netE] at h⟩
theorem netE_new (w : World) : NetR (w.alloc (.cells #[.slice none 0 0, .slice none 0 0, .slice none 0 0] 229)) w.heap.size (fun k => k = w.heap.size) w.heap.size netE := by
  refine ⟨fun _ => 0, .slice none 0 0, .slice none 0 0, .slice none 0 0, [], ⟨heap_alloc_new _ _, ⟨rfl, rfl⟩, fun k hk => ⟨by omega, by simp; omega⟩, ⟨World.ownsRow_nil _ _ _ _, fun k hk => by simp [Value.ownBlock] at hk, fun i u x hu _ => by simp at hu⟩, ⟨Rp.own_nil _ _ _ _, fun k hk => by simp [Value.ownBlock] at hk⟩, ⟨Rp.own_nil _ _ _ _, fun k hk => by simp [Value.ownBlock] at hk⟩⟩⟩
theorem net0_eq : netE.place.place = net0 := rfl
set_option maxRecDepth 100000 in
set_option maxHeartbeats 4000000 in
theorem made_calls {w : World} {F G : Nat → Prop} {A Ag : Option Addr} {c cg : Nat} {e : Ex} {g : List Grp} (hr : exR.row w F A e.l) (hgr : grpR.row w G Ag g) (hF : ∀ k, F k → k < w.heap.size) (hG : ∀ k, G k → k < w.heap.size) (hl : liveE (typesOf g) e) (hw : 8 * e.cnt ≤ 1000000) (hgl : g.length ≤ 1048576) :
    Calls Tryz.prog 134 #[e.val A c, .slice Ag g.length cg] w fun r w' => (∃ nb, r = .returned (.pointer (some ⟨nb, 0, none⟩)) ∧ NetV w' nb (netOf (typesOf g) e)) ∧ Pure w w' := by
  obtain ⟨k0, nm, l⟩ := e
  generalize hX : w.alloc (.cells #[.int .i64 k0, .string nm, .slice A l.length c] 92) = X
  have hPX : Pure w X := hX ▸ (Upd.refl _ _).alloc _
  have hXs : X.heap.size = w.heap.size + 1 := by rw [← hX]; simp
  have HB := As.mk (show BoxE w.heap.size k0 nm l.length A c X from hX ▸ BoxE.new _ _ _ _ _ _ _)
  have HX := As.mk hX
  have hn0 := netE_new X
  rw [hXs] at hn0
  have hS0 : NetGo (X.alloc (.cells #[.slice none 0 0, .slice none 0 0, .slice none 0 0] 229)) (X.alloc (.cells #[.slice none 0 0, .slice none 0 0, .slice none 0 0] 229)) (w.heap.size + 1) (fun k => k = w.heap.size + 1) (w.heap.size + 1) netE := NetGo.refl hn0
  generalize hW : X.alloc (.cells #[.slice none 0 0, .slice none 0 0, .slice none 0 0] 229) = W at *
  have hPW : Pure X W := hW ▸ (Upd.refl _ _).alloc _
  have HROW : As (∀ w' N', NetGo W w' (w.heap.size + 1) (fun k => k = w.heap.size + 1) (w.heap.size + 1) N' → exR.row w' F A l ∧ grpR.row w' G Ag g ∧ BoxE w.heap.size k0 nm l.length A c w') := ⟨fun w' N' hn => by
    have hu := hn.upd
    refine ⟨Rp.row_upd (Rp.row_pure (Rp.row_pure hr hPX) hPW) hu (fun k _ hk hM => by have := hF k hk; omega), Rp.row_upd (Rp.row_pure (Rp.row_pure hgr hPX) hPW) hu (fun k _ hk hM => by have := hG k hk; omega), BoxE.go (HB.out.pure hPW) hn (by omega)⟩⟩
  have HEND : As (∀ w' N', NetGo W w' (w.heap.size + 1) (fun k => k = w.heap.size + 1) (w.heap.size + 1) N' → NetV w' (w.heap.size + 1) N' ∧ Pure w w') := ⟨fun w' N' hn => by
    obtain ⟨M', ⟨lab, tv, bv, nv, vs, hs⟩, _, hu⟩ := hn
    refine ⟨hs.view, hPX.trans (hPW.trans hu (fun k hk h => by omega)) (fun _ _ h => h)⟩⟩
  have HFX : As (∀ k, F k → k < w.heap.size + 1) := ⟨fun k hk => by have := hF k hk; omega⟩
  have HGX : As (∀ k, G k → k < w.heap.size + 1) := ⟨fun k hk => by have := hG k hk; omega⟩
  have HS0 := As.mk hS0
  have HW := As.mk hW
  have HL := As.mk hl
  have hcw : net0.wt + 8 * (Ex.mk k0 nm l).cnt ≤ 1048576 := by have : net0.wt = 2 := rfl; omega
  have HLY := As.mk (LayC.of (lay_all _ (.mk k0 nm l) (Nat.le_refl _)))
  have HCW := As.mk hcw
  clear hr hgr hF hG hl hw hcw hn0 hS0 hPX hPW
  show Calls Tryz.prog 134 #[.agg #[.int .i64 k0, .string nm, .slice A l.length c], .slice Ag g.length cg] w _
  go_enter Tryz.func134, Tryz.ntmps134
  go_wp2_with (go_at_call 170; refine (place_go2 (n := 0) HS0.out netE_ok (by decide) rfl).mono ?_; rintro e w1 ⟨rfl, hn⟩; have HN1 := As.mk hn; clear hn; apply As.out)
  refine ⟨?_⟩
  go_wp2_with (go_at_call 170; refine (place_go2 (n := 1) HN1.out (NetD.place_ok netE_ok) (by decide) rfl).mono ?_; rintro e w2 ⟨rfl, hn⟩; rw [net0_eq] at hn; have HN2 := As.mk hn; clear hn; apply As.out)
  refine ⟨?_⟩
  obtain ⟨hr2, hg2, q0, q1, q2, q3⟩ := HROW.out _ _ HN2.out
  have HR2 := As.mk hr2
  have HG2 := As.mk hg2
  clear hr2 hg2
  go_wp2_with (go_at_call 171; refine (HLY.out _ _ _ _ F G _ net0 A Ag c cg 0 1 g HN2.out net0_ok (by decide) (by decide) HR2.out HG2.out HFX.out HGX.out HL.out HCW.out hgl).mono ?_; rintro e w3 ⟨rfl, hn⟩; have HN3 := As.mk hn; clear hn)
  go_ret
  obtain ⟨h1, h2⟩ := HEND.out _ _ HN3.out
  exact ⟨⟨_, rfl, h1⟩, h2⟩
end Go.Proofs.YtofjodppljnlaaaGreatDoor
namespace Go.Proofs.YtofjodppljnlaaaGreatDoor
open Go.RowKit
set_option linter.unusedVariables false
set_option linter.unusedSimpArgs false
theorem bool_info : (Tryz.prog.info? 4).map (fun i => (i.zero, i.size, i.bytes)) = some (some (.bool false), 1, 1) := by kernel_rfl
/-- A row of bools of the call's own. -/
abbrev BoolO (w : World) (F : Nat → Prop) (v : Value) (xs : List Bool) : Prop := Rp.bool.own 4 w F v xs
theorem bool_own {w : World} {F : Nat → Prop} {v : Value} {xs : List Bool} : BoolO w F v xs ↔ w.ownsRow 0 4 1 v xs.length (xs.map .bool) ∧ ∀ k, v.ownBlock = some k → F k := by
  constructor
  · rintro ⟨inner, h1, h2, h3⟩
    have he : inner = xs.map .bool := by
      have hil : inner.length = xs.length := h1.1.trans (Nat.mul_one _)
      refine List.ext_getElem (by simp [hil]) (fun j hj1 hj2 => ?_)
      have h4 := h3.2 j xs[j] (List.getElem?_eq_getElem (by omega))
      rw [show Rp.bool.sz = 1 from rfl, Nat.mul_one, List.drop_eq_getElem_cons hj1] at h4
      have h5 : [inner[j]] = [Value.bool xs[j]] := h4
      simpa using h5
    rw [← he]
    exact ⟨h1, h2⟩
  · rintro ⟨h1, h2⟩
    refine ⟨_, h1, h2, ⟨by simp [show Rp.bool.sz = 1 from rfl], fun j x hx => ?_⟩⟩
    obtain ⟨hj, rfl⟩ := List.getElem?_eq_some_iff.1 hx
    rw [show Rp.bool.sz = 1 from rfl, Nat.mul_one, List.drop_eq_getElem_cons (by simpa using hj)]
    show [_] = [_]
    simp
theorem bool_set {w : World} {F : Nat → Prop} {g cap : Nat} {xs : List Bool} (h : BoolO w F (.slice (some ⟨g, 0, none⟩) xs.length cap) xs) {i : Nat} (hi : i < xs.length) (b : Bool) : BoolO (w.setCell ⟨g, i, none⟩ (.bool b)) F (.slice (some ⟨g, 0, none⟩) (xs.set i b).length cap) (xs.set i b) := by
  obtain ⟨h1, h2⟩ := bool_own.1 h
  refine bool_own.2 ⟨?_, h2⟩
  rw [List.length_set, List.map_set]
  exact ownsRow_set h1 hi _
theorem bool_form {w : World} {F : Nat → Prop} {v : Value} {xs : List Bool} (h : BoolO w F v xs) (h0 : 0 < xs.length) : ∃ g cap, v = .slice (some ⟨g, 0, none⟩) xs.length cap ∧ F g ∧ g < w.heap.size := by
  obtain ⟨h1, h2⟩ := bool_own.1 h
  obtain ⟨g, cap, rfl, _, h3⟩ := h1.form h0
  exact ⟨g, cap, rfl, h2 g rfl, h3⟩
theorem bool_cell {w : World} {F : Nat → Prop} {g cap : Nat} {xs : List Bool} (h : BoolO w F (.slice (some ⟨g, 0, none⟩) xs.length cap) xs) {i : Nat} {b : Bool} (hi : xs[i]? = some b) : w.cell? ⟨g, i, none⟩ = some (.bool b) ∧ w.frozen? ⟨g, i, none⟩ = false := by
  obtain ⟨h1, _⟩ := bool_own.1 h
  obtain ⟨u, h3, h4, h5, _⟩ := own_cell h1 (i := i) (List.getElem?_eq_some_iff.1 hi).1
  rw [List.getElem?_map, hi] at h3
  cases h3
  exact ⟨h4, h5⟩
def falses (l : List Bool) : Nat := l.count false
theorem falses_set : ∀ {l : List Bool} {i : Nat}, l[i]? = some false → falses (l.set i true) + 1 = falses l
  | b :: r, 0, h => by simp at h; subst h; simp [falses]
  | b :: r, i + 1, h => by
    have := falses_set (l := r) (i := i) (by simpa using h)
    unfold falses at *
    rw [List.set_cons_succ, List.count_cons, List.count_cons]
    omega
structure Spr (N : NetD) (xs out : List Bool) : Prop where
  len : out.length = N.nx.length
  sub : ∀ j, xs.getD j false = true → out.getD j false = true
  snd : ∀ j, out.getD j false = true → ∃ i, xs.getD i false = true ∧ Rch N.E i [] j
theorem getD_of {α : Type} {l : List α} {i : Nat} {x d : α} (h : l[i]? = some x) : l.getD i d = x := by simp [List.getD, h]
theorem set_true {out : List Bool} {q j : Nat} (h : out.getD j false = true) : (out.set q true).getD j false = true := by
  rw [getD_set1]
  split
  · rfl
  · exact h
theorem Spr.set {N : NetD} {xs out : List Bool} (h : Spr N xs out) {k q : Nat} (hk : out.getD k false = true) (hq : (q : Int) ∈ N.tos.getD k []) : Spr N xs (out.set q true) where
  len := by rw [List.length_set]; exact h.len
  sub := fun j hj => set_true (h.sub j hj)
  snd := fun j hj => by
    rw [getD_set1] at hj
    split at hj
    · rename_i hc
      obtain ⟨i, hi, hr⟩ := h.snd k hk
      exact ⟨i, hi, hr.trans (Rch.one (.inl ⟨rfl, hc.1 ▸ hq⟩))⟩
    · exact h.snd j hj
/-- All ways of the places below k are followed. -/
def ClsTo (N : NetD) (out : List Bool) (k : Nat) : Prop := ∀ p, p < k → out.getD p false = true → ∀ y ∈ N.tos.getD p [], out.getD y.toNat false = true
/-- What spread says. -/
structure SpreadR (N : NetD) (xs out : List Bool) : Prop where
  len : out.length = N.nx.length
  iff : ∀ j, out.getD j false = true ↔ ∃ i, xs.getD i false = true ∧ Rch N.E i [] j
theorem rch_eps {N : NetD} {i j : Nat} {u : List Int} (h : Rch N.E i u j) : u = [] → ∀ out : List Bool, ClsTo N out N.nx.length → N.Ok → out.getD i false = true → out.getD j false = true := by
  induction h with
  | nil p => intro _ out _ _ h; exact h
  | cons he hr ih =>
    intro hu out hc hok hi
    have h1 := (List.append_eq_nil_iff.1 hu)
    refine ih h1.2 out hc hok ?_
    have hlt := (Ok.lt hok he).1
    rcases he with ⟨_, hm⟩ | ⟨t, ht, _⟩
    · have := hc _ hlt hi _ hm
      simpa using this
    · rw [h1.1] at ht; cases ht
theorem Spr.done {N : NetD} {xs out : List Bool} (h : Spr N xs out) (hok : N.Ok) (hc : ClsTo N out N.nx.length) : SpreadR N xs out :=
  ⟨h.len, fun j => ⟨h.snd j, fun ⟨i, hi, hr⟩ => rch_eps hr rfl out hc hok (h.sub i hi)⟩⟩
theorem bool_at {w : World} {F : Nat → Prop} {A : Option Addr} {xs : List Bool} (h : Rp.bool.row w F A xs) {j : Nat} {x : Bool} (hx : xs[j]? = some x) :
    ∃ b o, A = some ⟨b, o, none⟩ ∧ F b ∧ b < w.heap.size ∧ w.cell? ⟨b, o + j, none⟩ = some (.bool x) := by
  obtain ⟨b, o, cs, hA, hF, hb, hr, hc⟩ := Rp.row_at h hx
  have hr' : cs = [.bool x] := hr
  subst hr'
  have := hc 0 _ rfl
  rw [show (Rp.bool.sz) = 1 from rfl, Nat.mul_one] at this
  exact ⟨b, o, hA, hF, hb, this⟩
theorem bool_form2 {w : World} {F : Nat → Prop} {v : Value} {xs : List Bool} {n : Nat} (h : BoolO w F v xs) (hn : xs.length = n) (h0 : 0 < n) : ∃ g cap, v = .slice (some ⟨g, 0, none⟩) n cap ∧ F g ∧ g < w.heap.size := by
  subst hn
  exact bool_form h h0
theorem bool_cell2 {w : World} {F : Nat → Prop} {g cap n : Nat} {xs : List Bool} (h : BoolO w F (.slice (some ⟨g, 0, none⟩) n cap) xs) (hn : xs.length = n) {i : Nat} {b : Bool} (hi : xs[i]? = some b) : w.cell? ⟨g, i, none⟩ = some (.bool b) ∧ w.frozen? ⟨g, i, none⟩ = false := by
  subst hn
  exact bool_cell h hi
theorem bool_set2 {w : World} {F : Nat → Prop} {g cap n : Nat} {xs : List Bool} (h : BoolO w F (.slice (some ⟨g, 0, none⟩) n cap) xs) (hn : xs.length = n) {i : Nat} (hi : i < n) (b : Bool) : BoolO (w.setCell ⟨g, i, none⟩ (.bool b)) F (.slice (some ⟨g, 0, none⟩) n cap) (xs.set i b) := by
  subst hn
  have := bool_set h hi b
  rw [List.length_set] at this
  exact this
theorem NetV.tos {w : World} {nb : Nat} {N : NetD} (h : NetV w nb N) (ok : N.Ok) {k : Nat} {x : List Int} (hx : N.tos[k]? = some x) :
    ∃ b o ct A1 c1, w.cell? ⟨nb, 0, none⟩ = some (.slice (some ⟨b, o, none⟩) N.nx.length ct) ∧ w.cell? ⟨b, o + k, none⟩ = some (.slice A1 x.length c1) ∧ intR.row w AnyB A1 x := by
  obtain ⟨At, ct, Ab, cb, An, cn, h0, h1, h2, h3⟩ := h
  obtain ⟨b, o, A1, c1, rfl, _, h4, h5⟩ := tyrow_at h1 hx
  rw [ok.tl] at h0
  exact ⟨b, o, ct, A1, c1, by unfold World.cell?; simp only [h0]; rfl, h4, h5⟩
theorem NetV.tos0 {w : World} {nb : Nat} {N : NetD} (h : NetV w nb N) (ok : N.Ok) : ∃ At ct, w.cell? ⟨nb, 0, none⟩ = some (.slice At N.nx.length ct) := by
  obtain ⟨At, ct, Ab, cb, An, cn, h0, h1, h2, h3⟩ := h
  rw [ok.tl] at h0
  exact ⟨At, ct, by unfold World.cell?; simp only [h0]; rfl⟩
theorem take_step {x : List Int} {q : Nat} {y : Int} (hy : x[q]? = some y) {z : Int} (hz : z ∈ x.take (q + 1)) : z ∈ x.take q ∨ z = y := by
  rw [List.take_add_one, hy] at hz
  simpa using hz
set_option maxRecDepth 100000 in
set_option maxHeartbeats 4000000 in
theorem spread_calls {w : World} {nb : Nat} {N : NetD} {F : Nat → Prop} {A : Option Addr} {c : Nat} {xs : List Bool} (hN : NetV w nb N) (ok : N.Ok) (hx : Rp.bool.row w F A xs) (hl : xs.length = N.nx.length) (h0 : 0 < N.nx.length) (hb : N.nx.length ≤ 1048576) (hrow : ∀ x ∈ N.tos, x.length ≤ 1048576) :
    Calls Tryz.prog 201 #[.pointer (some ⟨nb, 0, none⟩), .slice A N.nx.length c] w fun r w' => (∃ v out, r = .returned v ∧ BoolO w' (fun k => w.heap.size ≤ k) v out ∧ SpreadR N xs out) ∧ Pure w w' := by
  have HN := As.mk hN
  have HK := As.mk ok
  have HX := As.mk hx
  have HL := As.mk hl
  have HR := As.mk hrow
  have HB1 := As.mk (show xs.length ≤ 1048576 by omega)
  clear hN ok hx hl hrow
  go_enter Tryz.func201, Tryz.ntmps201
  go_wp2_with (at_builtin; refine Rp.append_row Rp.bool (c := c) (Rp.own_empty0 (F := fun q => w.heap.size ≤ q) Rp.bool (heap_alloc_new w _) (Nat.le_refl _)) (Rp.row'_of (Rp.row_pure HX.out ((Upd.refl _ _).alloc _)) (fun _ _ h => h)) (Fz := fun _ => False) (fun _ h => h.elim) rfl _ _ 180 (.bool false) 1 rfl Tryz.underlying180 bool_info rfl (by decide) (by decide) rfl (by rw [HL.out]; rfl) (by have := HB1.out; simp only [List.length_nil]; omega) ?_; intro v1 w1 ho1 hu1 hat; simp only [List.nil_append] at ho1; apply As.out)
  refine ⟨?_⟩
  have HO1 : As (BoolO w1 (fun k => w.heap.size ≤ k) v1 xs) := ⟨Rp.own_fp ho1 (fun q hq => by
    rcases hq with hq | hq | hq
    · exact hq.1
    · exact hq.elim
    · rcases hat with hat | ⟨b, hb, hle⟩
      · rw [hat] at hq; simp [Value.ownBlock] at hq; omega
      · rw [hb] at hq; injection hq with hq; simp at hle; omega)⟩
  have HP1 : As (Pure w w1) := ⟨Upd.trans ((Upd.refl _ _).alloc _) hu1 (fun k hk h => by simp [Value.ownBlock] at h; omega)⟩
  obtain ⟨g, cap, rfl, hgF, hgl⟩ := bool_form2 HO1.out HL.out h0
  clear ho1 hu1 hat hgl
  go_wp2
  go_loopg [6] (falses xs + 1) (fun gg m wr => ∃ (out : List Bool) (more : Bool), m = .bool more ∧ falses out + more.toNat ≤ gg ∧ As (Spr N xs out) ∧ As (more = false → ClsTo N out N.nx.length) ∧ As (BoolO wr (fun k => w.heap.size ≤ k) (.slice (some ⟨g, 0, none⟩) N.nx.length cap) out) ∧ As (Pure w wr))
  case atStart => exact ⟨xs, true, rfl, by simp, ⟨⟨HL.out, fun _ h => h, fun j h => ⟨j, h, .nil j⟩⟩⟩, ⟨fun h => by cases h⟩, HO1, HP1⟩
  case round =>
    obtain ⟨out, more, rfl, hm, HS, HC, HO, HP⟩ := hrel
    cases more with
    | false =>
      go_wp2
      go_ret
      exact ⟨⟨_, rfl, out, HO.out, HS.out.done HK.out (HC.out (by simp))⟩, HP.out⟩
    | true =>
      obtain ⟨g1, rfl⟩ : ∃ m, gk = m + 1 := ⟨gk - 1, by simp at hm; omega⟩
      have HM : As (falses out ≤ g1) := ⟨by simp at hm; omega⟩
      clear hm
      go_wp2
      go_loopg [7, 6] N.nx.length (fun g2 i m wx => ∃ (k : Nat) (out1 : List Bool) (m1 : Bool), k + g2 = N.nx.length ∧ i = .int .i64 k ∧ m = .bool m1 ∧ As (falses out1 + m1.toNat ≤ g1) ∧ As (Spr N xs out1) ∧ As (m1 = false → ClsTo N out1 k) ∧ As (BoolO wx (fun k => w.heap.size ≤ k) (.slice (some ⟨g, 0, none⟩) N.nx.length cap) out1) ∧ As (Pure w wx))
      case atStart => exact ⟨0, out, false, by omega, rfl, rfl, ⟨HM.out⟩, HS, ⟨fun _ p hp => absurd hp (by omega)⟩, HO, HP⟩
      case round =>
        obtain ⟨k, out1, m1, hk, rfl, rfl, HF1, HS1, HC1, HOx, HPx⟩ := hrel
        obtain ⟨At, ct, q0⟩ := (HN.out.pure HPx.out).tos0 HK.out
        by_cases hlt : k < N.nx.length
        · obtain ⟨x, hx⟩ : ∃ x, N.tos[k]? = some x := ⟨_, List.getElem?_eq_getElem (by rw [HK.out.tl]; exact hlt)⟩
          obtain ⟨g2, rfl⟩ : ∃ m, gk = m + 1 := ⟨gk - 1, by omega⟩
          have hxl := HR.out x (List.mem_of_getElem? hx)
          have HX2 := As.mk hx
          have HKK := As.mk hk
          clear hk hx
          go_wp2
          go_loopg [8, 6] x.length (fun g3 j m wy => ∃ (q : Nat) (out2 : List Bool) (m2 : Bool), q + g3 = x.length ∧ j = .int .i64 q ∧ m = .bool m2 ∧ As (falses out2 + m2.toNat ≤ g1) ∧ As (Spr N xs out2) ∧ As (m2 = false → ClsTo N out2 k ∧ ∀ y ∈ x.take q, out2.getD k false = true → out2.getD y.toNat false = true) ∧ As (BoolO wy (fun k => w.heap.size ≤ k) (.slice (some ⟨g, 0, none⟩) N.nx.length cap) out2) ∧ As (Pure w wy))
          case atStart => exact ⟨0, out1, m1, by omega, rfl, rfl, HF1, HS1, ⟨fun h => ⟨HC1.out h, fun y hy => by simp at hy⟩⟩, HOx, HPx⟩
          case round =>
            obtain ⟨q, out2, m2, hq, rfl, rfl, HF2, HS2, HC2, HOy, HPy⟩ := hrel
            obtain ⟨bt, ot, ct2, A1, c1, t0, t1, hr1⟩ := (HN.out.pure HPy.out).tos HK.out HX2.out
            obtain ⟨bk, hbk⟩ : ∃ b, out2[k]? = some b := ⟨_, List.getElem?_eq_getElem (by rw [HS2.out.len]; exact hlt)⟩
            obtain ⟨u0, u1⟩ := bool_cell2 HOy.out HS2.out.len hbk
            have HR1 := As.mk hr1
            have HBK := As.mk (getD_of (d := false) hbk)
            have HQ := As.mk hq
            clear q0 hr1 hbk hq
            cases bk with
            | false =>
              go_wp2
              go_roundg g2
              case measure => omega
              case rel => exact ⟨k + 1, out2, m2, by have := HKK.out; omega, by go_num, rfl, HF2, HS2, ⟨fun h p hp hpt => by
                rcases Nat.lt_succ_iff_lt_or_eq.1 hp with hp | rfl
                · exact (HC2.out h).1 p hp hpt
                · rw [HBK.out] at hpt; cases hpt⟩, HOy, HPy⟩
            | true =>
              by_cases hlt2 : q < x.length
              · obtain ⟨y, hy⟩ : ∃ y, x[q]? = some y := ⟨_, List.getElem?_eq_getElem hlt2⟩
                obtain ⟨g3, rfl⟩ : ∃ m, gk = m + 1 := ⟨gk - 1, by have := HQ.out; omega⟩
                obtain ⟨by0, oy, rfl, _, _, y0⟩ := int_at HR1.out hy
                have hmem : y ∈ N.tos.getD k [] := by rw [getD_of HX2.out]; exact List.mem_of_getElem? hy
                obtain ⟨hy1, hy2⟩ := HK.out.tgt k y hmem
                obtain ⟨z, rfl⟩ : ∃ z : Nat, y = z := ⟨y.toNat, by omega⟩
                obtain ⟨bz, hbz⟩ : ∃ b, out2[z]? = some b := ⟨_, List.getElem?_eq_getElem (by rw [HS2.out.len]; omega)⟩
                obtain ⟨v0, v1⟩ := bool_cell2 HOy.out HS2.out.len hbz
                have HME := As.mk hmem
                have HBZ := As.mk hbz
                have HY := As.mk hy
                have hzl : z < N.nx.length := by omega
                have hgl := (Rp.own_block_lt HOy.out g rfl).2
                clear hmem hbz hy
                cases bz with
                | false =>
                  go_wp2
                  go_roundg g3
                  case measure => omega
                  case rel => exact ⟨q + 1, out2.set z true, true, by have := HQ.out; omega, by go_num, rfl, ⟨by
                    have h1 := falses_set HBZ.out
                    have h2 := HF2.out
                    show falses (out2.set z true) + 1 ≤ g1
                    omega⟩, ⟨HS2.out.set HBK.out HME.out⟩, ⟨fun h => by cases h⟩, ⟨bool_set2 HOy.out HS2.out.len hzl true⟩, ⟨HPy.out.trans (Upd.setCell1 (S := fun k => k = g) _ (p := ⟨g, z, none⟩) rfl _) (fun k hk h => by have := hgF; omega)⟩⟩
                | true =>
                  go_wp2
                  go_roundg g3
                  case measure => omega
                  case rel => exact ⟨q + 1, out2, m2, by have := HQ.out; omega, by go_num, rfl, HF2, HS2, ⟨fun h => ⟨(HC2.out h).1, fun y hy ht => by
                    rcases take_step HY.out hy with hy | rfl
                    · exact (HC2.out h).2 y hy ht
                    · simpa using getD_of (d := false) HBZ.out⟩⟩, HOy, HPy⟩
              · have hql : q = x.length := by have := HQ.out; omega
                subst hql
                go_wp2
                go_roundg g2
                case measure => omega
                case rel => exact ⟨k + 1, out2, m2, by have := HKK.out; omega, by go_num, rfl, HF2, HS2, ⟨fun h p hp hpt => by
                  rcases Nat.lt_succ_iff_lt_or_eq.1 hp with hp | rfl
                  · exact (HC2.out h).1 p hp hpt
                  · intro y hy
                    rw [getD_of HX2.out] at hy
                    have h2 := (HC2.out h).2 y
                    rw [List.take_length] at h2
                    exact h2 hy hpt⟩, HOy, HPy⟩
        · have hkl : k = N.nx.length := by omega
          subst hkl
          go_wp2
          go_roundg g1
          case measure => omega
          case rel => exact ⟨out1, m1, rfl, HF1.out, HS1, HC1, HOx, HPx⟩
end Go.Proofs.YtofjodppljnlaaaGreatDoor
