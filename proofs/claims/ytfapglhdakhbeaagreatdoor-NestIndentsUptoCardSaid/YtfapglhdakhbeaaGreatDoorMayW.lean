/- schema.May. -/
import Derived.Test.YtfapglhdakhbeaaGreatDoorHeldZ
import Derived.Test.YtfapglhdakhbeaaGreatDoorMayP
import Derived.Test.YtfapglhdakhbeaaGreatDoorRowK
namespace Go.Proofs.YtfapglhdakhbeaaGreatDoor
open Go.RowKit
set_option linter.unusedVariables false
set_option linter.unusedSimpArgs false

theorem step_store_row {P : Program} {ops : Array Oper} {o : Oper} {a : Act} {w : World} {K : Act → World → Prop} {Q : Exit → Act → World → Prop} {E : Prop} (hgd : o.guard = none) (ty : TypeId) (x y : Operand) (ho : o.op = .store ty x y)
    (g : Nat) (cells : Array Value) (hx : a.eval x = .pointer (some ⟨g, 0, none⟩)) (hy : a.eval y = .agg cells) (t : TypeId) (old : Array Value) (hg : w.heap[g]? = some (.cells old t (0, 0))) (hi : (P.info? ty).map (·.size) = some cells.size)
    (hold : old.size = cells.size) (h1 : cells.all (·.oneCell') = true) (h : K (a.put o.dst undef) (w.setRow g cells)) : if Region.wanted o (yielded ops a.tmps) = true then Oper.wp P o a w K Q else E := by
  rw [if_pos (by simp [Region.wanted, hgd])]
  exact wp_store_row ty x y ho g cells hx hy t old hg hi hold h1 h
theorem setRow_upd (w : World) (g : Nat) (cells : Array Value) : Upd (fun q => q = g) w (w.setRow g cells) := ⟨rfl, rfl, rfl, by simp [World.setRow], fun k _ hn => setRow_other w g k _ hn⟩
theorem rule_row {w : World} {cb : Nat} (h : SchR w cb houseRules houseGroups) : ∃ b0 o0 cL AG cG, w.cell? ⟨cb, 0, none⟩ = some (.slice (some ⟨b0, o0, none⟩) 8 cL) ∧ w.cell? ⟨cb, 1, none⟩ = some (.slice AG houseGroups.length cG) ∧ cb < w.heap.size ∧ 8 ≤ cL ∧ b0 < w.heap.size ∧ ruleR.row w (fun _ => True) (some ⟨b0, o0, none⟩) houseRules ∧ grpR.row w (fun _ => True) AG houseGroups := by
  obtain ⟨AL, cL, AG, cG, p0, p1, hcb, hle, hrow, hg⟩ := h.cells
  rw [house_len] at p0 hle
  obtain ⟨y, hy⟩ : ∃ y, houseRules[0]? = some y := ⟨_, List.getElem?_eq_getElem (by rw [house_len]; decide)⟩
  obtain ⟨x0, e0⟩ := y
  obtain ⟨b0, o0, A1, c1, rfl, _, hb0, _⟩ := rule_at hrow hy
  exact ⟨b0, o0, cL, AG, cG, p0, p1, hcb, hle, hb0, hrow, hg⟩
set_option maxRecDepth 100000 in
set_option maxHeartbeats 4000000 in
theorem May_whole {w : World} {cb : Nat} {F : Nat → Prop} {A : Option Addr} {c : Nat} {l : List Tok} {n : Nat} {t : Int} {R : Spec × Ex} (h : SchR w cb houseRules houseGroups) (hr : tokR.row w F A l) (hb : l.length ≤ 2048) (hlc : l.length ≤ c) (ok : (houseCheck l).2 = 0) (hn : n ≤ l.length) (hP : AtP l n R) (hw : aroundL l n = -1 ∧ houseRules[0]? = some R) :
    Calls Tryz.prog 21 #[.pointer (some ⟨cb, 0, none⟩), .slice A l.length c, .int .i64 n, .int .i64 t] w fun r w' => r = .returned (.bool (regAccepts R.2 houseGroups (mayGo l n t (kidsL l (aroundL l n)) false))) ∧ Pure w w' := by
  have HS := As.mk h
  have HR := As.mk hr
  have HKD0 := As.mk hP.kids
  have HCK := As.mk (house_check (c := c) h hr (by omega))
  rw [ok] at HCK
  have HAR := As.mk (fun (W : World) (hu : Pure w W) => around_calls (c := c) (at' := (n : Int)) (Rp.row_pure hr hu) (by omega) hlc)
  have ha : aroundL l n = -1 := hw.1
  have HKI := As.mk (fun (W : World) (hu : Pure w W) => Kids_whole (c := c) (Rp.row_pure hr hu) (by omega))
  obtain ⟨x0, e0⟩ := R
  have hy0 := hw.2
  rw [ha] at HAR HKD0
  rw [ha]
  have HKL := As.mk (show (kidsL l (-1)).length ≤ 2048 by have := kidsL_len l (-1); omega)
  obtain ⟨b0, o0, cL, AG, cG, p0, p1, hcb, hle, hb0, hrow, hgrow⟩ := rule_row h
  have HG := As.mk hgrow
  obtain ⟨b0', o0', A1, c1, hA, _, _, d0, d1, d2, d3, d4, d5, d6, d7, d8, d9, hl1, hx1⟩ := rule_at hrow hy0
  simp only [Option.some.injEq, Addr.mk.injEq] at hA
  obtain ⟨rfl, rfl, _⟩ := hA
  simp only [Nat.zero_mul, Nat.add_zero] at d0 d1 d2 d3 d4 d5 d6 d7 d8 d9
  have HMEM := As.mk (List.mem_of_getElem? hy0)
  have HXR := As.mk hx1
  have HBT := As.mk (fun (bx : Nat) (_ : bx = bx) => trivial)
  have t1 : decide ((n : Int) < 0) = false := by simp
  have t2 : decide ((n : Int) > (l.length : Int)) = false := by simp; omega
  have t3 : decide ((l.length : Int) < (n : Int)) = false := by simp; omega
  have t4 : decide (l.length < n) = false := by simp; omega
  clear h hr ok hP hrow hgrow hx1 hw ha
  go_enter Tryz.func21, Tryz.ntmps21
  go_wp2_with (first | (go_at_call 77; refine (HAR.out w1 HU1.out).mono ?_; rintro r w2 ⟨rfl, hu⟩; have HU2 := As.mk (HU1.out.trans hu (fun _ _ h => h)); obtain ⟨oc, of⟩ := Pure.olds HU2.out; have hz2 := HU2.out.size; clear hu) | (go_at_call 17; refine HCK.out.mono ?_; rintro r w1 ⟨rfl, hu⟩; have HU1 := As.mk hu; clear hu))
  obtain ⟨W3, hW3⟩ : ∃ W3, W3 = w2.alloc (.cells #[.string x0.name, .string x0.expr, .bool x0.leaf, .int .i64 x0.marks, .int .i64 x0.least, .int .i64 x0.most, .bool x0.lines, .int .i64 e0.k, .string e0.name, .slice A1 e0.l.length c1] 97) := ⟨_, rfl⟩
  have HU3 := As.mk (show Pure w W3 from hW3 ▸ HU2.out.alloc _)
  have hW3b : W3.heap[w2.heap.size]? = some (.cells #[.string x0.name, .string x0.expr, .bool x0.leaf, .int .i64 x0.marks, .int .i64 x0.least, .int .i64 x0.most, .bool x0.lines, .int .i64 e0.k, .string e0.name, .slice A1 e0.l.length c1] 97 (0, 0)) := hW3 ▸ heap_alloc_new w2 _
  have HW3B := As.mk hW3b
  have hz3 : w2.heap.size < W3.heap.size := (Array.getElem?_eq_some_iff.1 hW3b).1
  have HZ := As.mk (And.intro hz2 hz3)
  rw [← hW3]
  clear hW3 hW3b d0 d1 d2 d3 d4 d5 d6 d7 d8 d9
  obtain ⟨W5, hW5⟩ : ∃ W5, W5 = W3 := ⟨_, rfl⟩
  have HU5 := As.mk (show Pure w W5 from hW5 ▸ HU3.out)
  have HB5 := As.mk (show W5.heap[w2.heap.size]? = some (.cells #[.string x0.name, .string x0.expr, .bool x0.leaf, .int .i64 x0.marks, .int .i64 x0.least, .int .i64 x0.most, .bool x0.lines, .int .i64 e0.k, .string e0.name, .slice A1 e0.l.length c1] 97 (0, 0)) from hW5 ▸ HW3B.out)
  rw [← hW5]
  clear hW5
  go_wp2_with (go_at_call 81; refine (HKI.out W5 HU5.out).mono ?_; rintro r w4 ⟨v4, rfl, ho, hu⟩; have HO4 := As.mk ho; have HP4 := As.mk hu; have HU4 := As.mk (HU5.out.trans hu (fun _ _ h => h)); obtain ⟨A4, c4, rfl, hl4, hr4⟩ := Rp.own_slice ho; have HR4 := As.mk hr4; clear hu ho hr4; apply As.out)
  refine ⟨?_⟩
  have HM := As.mk (show (x0, e0) ∈ houseRules from HMEM.out)
  have HB4 := As.mk ((HP4.out.block w2.heap.size (Array.getElem?_eq_some_iff.1 HB5.out).1 (fun h => h)).trans HB5.out)
  have HCEL : As (∀ V, Pure w4 V → V.cell? ⟨w2.heap.size, 7, none⟩ = some (.int .i64 e0.k) ∧ V.cell? ⟨w2.heap.size, 8, none⟩ = some (.string e0.name) ∧ V.cell? ⟨w2.heap.size, 9, none⟩ = some (.slice A1 e0.l.length c1) ∧ V.cell? ⟨cb, 1, none⟩ = some (.slice AG houseGroups.length cG)) := ⟨fun V hu => by
    have hb := (hu.block w2.heap.size (Array.getElem?_eq_some_iff.1 HB4.out).1 (fun h => h)).trans HB4.out
    refine ⟨?_, ?_, ?_, ((HU4.out.trans hu (fun _ _ h => h)).cell hcb (fun h => h)).trans p1⟩ <;> (unfold World.cell?; simp only [hb]; rfl)⟩
  have HACC := As.mk (fun (V : World) (hu : Pure w V) (Aw : Option Addr) (cw : Nat) (wd : List Int) (Fw : Nat → Prop) (hw : intRS.row V Fw Aw wd) (hwl : wd.length ≤ 1048576) => acc_calls (c := c1) (d := cG) (cw := cw) (SchR.made house_ok HG.out hu HM.out (Rp.row_move (fun k hk hl => ⟨hl, Nat.lt_of_lt_of_le hl hu.size, hu.block k hl (fun h => h)⟩) HXR.out)) hw (by omega))
  have hkl4 := HKL.out
  generalize hks : kidsL l (-1 : Int) = ks at *
  have HKS := As.mk hks
  clear hks HKI HAR HCK HB5 HW3B HP4 HU3 HU2 HU1
  go_wp2
  go_loopg [13, 14, 61] ks.length (fun gg vv pv kv wr => ∃ (k : Nat) (put : Bool), k + gg = ks.length ∧ kv = .int .i64 k ∧ pv = .bool put ∧ As (∃ word : List Int, intRS.own 3 wr (fun q => w4.heap.size ≤ q) vv word ∧ word ++ mayGo l n t (ks.drop k) put = mayGo l n t ks false ∧ word.length ≤ 2 * k ∧ Pure w4 wr))
  case atStart => exact ⟨0, false, by omega, rfl, rfl, ⟨[], Rp.own_nil _ _ _ _, rfl, by simp, Upd.refl _ _⟩⟩
  case round =>
    obtain ⟨k, put, hk, rfl, rfl, HC⟩ := hrel
    obtain ⟨word, hown, hgo, hwl, hp⟩ := HC.out
    have HO := As.mk hown
    have HP := As.mk hp
    have HWL := As.mk hwl
    by_cases hlt : k < ks.length
    · obtain ⟨p, hp'⟩ : ∃ p, ks[k]? = some p := ⟨_, List.getElem?_eq_getElem hlt⟩
      obtain ⟨i, x, rfl, hx, _⟩ := HKD0.out p (List.mem_of_getElem? hp')
      obtain ⟨kb, ko, kcs, hA4, _, hkb, hkr, hkc⟩ := Rp.row_at (Rp.row_pure HR4.out HP.out) hp'
      have hkr2 : kcs = [.int .i64 (i : Int)] := hkr
      subst hkr2
      have f0 := hkc 0 _ rfl
      rw [show intRS.sz = 1 from rfl, Nat.mul_one, Nat.add_zero] at f0
      subst hA4
      obtain ⟨bx, ox, rfl, _, hbx0, x0', x1', x2', x3'⟩ := tok_at HR.out hx
      have HUW := As.mk (HU4.out.trans HP.out (fun _ _ h => h))
      replace x1' := (HUW.out.cell hbx0 (fun h => h)).trans x1'
      have hbx : bx < wr.heap.size := Nat.lt_of_lt_of_le hbx0 HUW.out.size
      have HBX := As.mk hbx0
      have hil : i < l.length := (List.getElem?_eq_some_iff.1 hx).1
      have htx : tyAt l (i : Int) = x.t := by unfold tyAt; rw [Int.toNat_natCast, hx]; rfl
      obtain ⟨g1, rfl⟩ : ∃ m, gk = m + 1 := ⟨gk - 1, by omega⟩
      rw [drop_cons hp', mayGo, htx] at hgo
      have HK := As.mk hk
      have hwk : IntKind.i64.wrap ((k : Int) + 1) = (k : Int) + 1 := IntWalk.i64_in _ (by omega)
      clear hown hp hk hp' hx hkc hkr htx HC hwl x0' x2' x3'
      by_cases hc : (n : Int) ≤ (i : Int) ∧ put = false
      · obtain ⟨hc1, rfl⟩ := hc
        rw [if_pos ⟨hc1, rfl⟩] at hgo
        have HE := As.mk (show (word ++ [t]) ++ [x.t] ++ mayGo l n t (ks.drop (k + 1)) true = mayGo l n t ks false by rw [← hgo]; simp)
        have u1 : decide ((i : Int) ≥ (n : Int)) = true := by simpa using hc1
        have u2 : decide ((n : Int) ≤ (i : Int)) = true := by simpa using hc1
        have u3 : decide (n ≤ i) = true := by simpa using hc1
        clear hgo hc1
        go_wp2_with (first | (at_builtin; refine Rp.own_append intRS HO1.out (x.t) [.int .i64 (x.t)] rfl (Fp := fun _ => False) (G := fun q => w4.heap.size ≤ q) (fun _ h => h.elim) (fun _ h _ => h) (fun q hq => by have := HP1.out.size; omega) rfl _ _ 86 _ 8 rfl Tryz.underlying86 int_infoS rfl (by decide) (by decide) rfl (by first | rfl | simp [Act.eval]) (by have := HWL.out; (try simp only [List.length_append, List.length_singleton]); omega) ?_; intro v2 w6 ho1 hu1; have HO2 := As.mk ho1; have HP2 := As.mk (HP1.out.trans hu1 (fun q hq h => by have := Rp.own_block_lt HO1.out q h; omega)); clear ho1 hu1) | (at_builtin; refine Rp.own_append intRS HO.out (t) [.int .i64 (t)] rfl (Fp := fun _ => False) (G := fun q => w4.heap.size ≤ q) (fun _ h => h.elim) (fun _ h _ => h) (fun q hq => by have := HP.out.size; omega) rfl _ _ 86 _ 8 rfl Tryz.underlying86 int_infoS rfl (by decide) (by decide) rfl (by first | rfl | simp [Act.eval]) (by have := HWL.out; omega) ?_; intro v1 w5 ho1 hu1; have HO1 := As.mk ho1; have HP1 := As.mk (HP.out.trans hu1 (fun q hq h => by have := Rp.own_block_lt HO.out q h; omega)); have y1 := (hu1.cell hbx (fun e => by have := (Rp.own_block_lt HO.out _ e).1; have := HU4.out.size; have := HBX.out; omega)).trans x1'; clear ho1 hu1))
        go_roundg g1
        case measure => omega
        case rel => exact ⟨k + 1, true, by have := HK.out; omega, by go_num, rfl, ⟨_, HO2.out, HE.out, by have := HWL.out; simp; omega, HP2.out⟩⟩
      · rw [if_neg hc] at hgo
        have HE := As.mk (show word ++ [x.t] ++ mayGo l n t (ks.drop (k + 1)) put = mayGo l n t ks false by rw [← hgo]; simp)
        have HC2 := As.mk hc
        clear hgo hc
        cases cb1 : decide ((n : Int) ≤ (i : Int)) <;> cases put
        all_goals first
          | (exfalso; exact HC2.out ⟨of_decide_eq_true cb1, rfl⟩)
          | skip
        all_goals
          have u1 : decide ((i : Int) ≥ (n : Int)) = decide ((n : Int) ≤ (i : Int)) := rfl
          rw [cb1] at u1
          have u3 : decide (n ≤ i) = decide ((n : Int) ≤ (i : Int)) := by simp
          rw [cb1] at u3
          go_wp2_with (at_builtin; refine Rp.own_append intRS HO.out (x.t) [.int .i64 (x.t)] rfl (Fp := fun _ => False) (G := fun q => w4.heap.size ≤ q) (fun _ h => h.elim) (fun _ h _ => h) (fun q hq => by have := HP.out.size; omega) rfl _ _ 86 _ 8 rfl Tryz.underlying86 int_infoS rfl (by decide) (by decide) rfl (by first | rfl | simp [Act.eval]) (by have := HWL.out; omega) ?_; intro v2 w6 ho1 hu1; have HO2 := As.mk ho1; have HP2 := As.mk (HP.out.trans hu1 (fun q hq h => by have := Rp.own_block_lt HO.out q h; omega)); clear ho1 hu1)
          go_roundg g1
          case measure => omega
          case rel => exact ⟨k + 1, _, by have := HK.out; omega, by go_num, rfl, ⟨_, HO2.out, HE.out, by have := HWL.out; simp; omega, HP2.out⟩⟩
    · obtain rfl : k = ks.length := by omega
      rw [List.drop_length, mayGo] at hgo
      have hwk : word.length ≤ 4096 := by omega
      clear hown hk hp HC hwl HKD0 HR4 HO4
      cases put
      · have HE := As.mk (show word ++ [t] = mayGo l n t ks false by rw [← hgo]; simp)
        clear hgo
        have HRES : As (∀ (V : World) (Aw : Option Addr) (cw : Nat) (Fw : Nat → Prop), Pure w V → intRS.row V Fw Aw (word ++ [t]) → Calls Tryz.prog 71 #[.agg #[.int .i64 e0.k, .string e0.name, .slice A1 e0.l.length c1], .slice AG houseGroups.length cG, .slice Aw (word.length + 1) cw] V fun r w' => r = .returned (.bool (regAccepts e0 houseGroups (mayGo l n t ks false))) ∧ Pure V w') := ⟨fun V Aw cw Fw hu hrw => by have h9 := HACC.out V hu Aw cw _ Fw hrw (by simp; omega); rw [List.length_append, List.length_singleton, HE.out] at h9; exact h9⟩
        clear HACC HE
        go_wp2_with (at_builtin; refine Rp.own_append intRS HO.out (t) [.int .i64 (t)] rfl (Fp := fun _ => False) (G := fun q => w4.heap.size ≤ q) (fun _ h => h.elim) (fun _ h _ => h) (fun q hq => by have := HP.out.size; omega) rfl _ _ 86 _ 8 rfl Tryz.underlying86 int_infoS rfl (by decide) (by decide) rfl (by first | rfl | simp [Act.eval]) (by have := HWL.out; omega) ?_; intro v2 w6 ho1 hu1; have HO2 := As.mk ho1; have HP2 := As.mk (HP.out.trans hu1 (fun q hq h => by have := Rp.own_block_lt HO.out q h; omega)); obtain ⟨A6, c6, rfl, hl6, hr6⟩ := Rp.own_slice ho1; have HR6 := As.mk hr6; clear ho1 hu1 hl6 hr6)
        try rw [List.length_append, List.length_singleton]
        have HCD := HCEL.out _ HP2.out
        have HRW := HR6
        refine wp_region_held_drew (S := (fun V => V.cell? ⟨w2.heap.size, 7, none⟩ = some (.int .i64 e0.k) ∧ V.cell? ⟨w2.heap.size, 8, none⟩ = some (.string e0.name) ∧ V.cell? ⟨w2.heap.size, 9, none⟩ = some (.slice A1 e0.l.length c1) ∧ V.cell? ⟨cb, 1, none⟩ = some (.slice AG houseGroups.length cG))) (by kernel_rfl) ?_ (fun hHeld => ?_)
        · first | exact HCEL.out _ HP9.out | exact HCEL.out _ HP2.out.drew
        refine zH 0 ?_
        refine zH 1 ?_
        refine zH 2 ?_
        refine zH 3 ?_
        (try simp only [Act.put, List.setIfInBounds_toArray, List.set_cons_zero, List.set_cons_succ])
        refine zH 4 ?_
        refine zH 5 ?_
        refine zH 6 ?_
        refine wpAnyH_ready (rs := [7]) (by kernel_rfl) (by simp) (AllReadyH.cons (o := { dst := (some 98), op := (Go.Op.call { callee := (Go.Callee.value (Go.Operand.func 71)), args := #[(Go.Operand.tmp 92), (Go.Operand.tmp 96), (Go.Operand.tmp 97)], argTypes := #[95, 89, 86] }), type := 4, pos := "schema.go:185", after := #[{ on := 1, ground := Go.Ground.data }, { on := 5, ground := Go.Ground.data }, { on := 6, ground := Go.Ground.data }], guard := none }) rfl (fun K hK => ?_) AllReadyH.nil)
        go_simp
        (go_at_call 71; refine (HRES.out _ _ _ _ (HU4.out.trans HP2.out.drew (fun _ _ h => h)) (Rp.row_pure HRW.out ((Upd.refl (fun _ => False) _).drew))).mono ?_; rintro r w9 ⟨rfl, hu⟩; have HP9 := As.mk (HP2.out.drew.trans hu (fun _ _ h => h)); clear hu)
        refine hK.out _ _ (by first | exact HCEL.out _ HP9.out | exact HCEL.out _ HP2.out.drew) (fun hHeld => ?_)
        clear hK K
        (try simp only [Act.put, List.setIfInBounds_toArray, List.set_cons_zero, List.set_cons_succ])
        refine zH 8 ?_
        refine wpAnyH_done (by kernel_rfl) ?_ _
        go_wp2
        go_ret
        exact ⟨by rw [HKS.out]; rfl, HU4.out.trans HP9.out (fun _ _ h => h)⟩
      · have HE := As.mk (show word = mayGo l n t ks false by rw [← hgo]; simp)
        clear hgo
        obtain ⟨A6, c6, rfl, hl6, hr6⟩ := Rp.own_slice HO.out
        have HRW := As.mk hr6
        have HRES : As (∀ (V : World) (Aw : Option Addr) (cw : Nat) (Fw : Nat → Prop), Pure w V → intRS.row V Fw Aw word → Calls Tryz.prog 71 #[.agg #[.int .i64 e0.k, .string e0.name, .slice A1 e0.l.length c1], .slice AG houseGroups.length cG, .slice Aw word.length cw] V fun r w' => r = .returned (.bool (regAccepts e0 houseGroups (mayGo l n t ks false))) ∧ Pure V w') := ⟨fun V Aw cw Fw hu hrw => by have h9 := HACC.out V hu Aw cw _ Fw hrw (by omega); rw [← HE.out]; exact h9⟩
        clear HACC HE hr6
        go_wp2
        refine wp_region_held_drew (S := (fun V => V.cell? ⟨w2.heap.size, 7, none⟩ = some (.int .i64 e0.k) ∧ V.cell? ⟨w2.heap.size, 8, none⟩ = some (.string e0.name) ∧ V.cell? ⟨w2.heap.size, 9, none⟩ = some (.slice A1 e0.l.length c1) ∧ V.cell? ⟨cb, 1, none⟩ = some (.slice AG houseGroups.length cG))) (by kernel_rfl) ?_ (fun hHeld => ?_)
        · first | exact HCEL.out _ HP9.out | exact HCEL.out _ HP.out.drew
        refine zH 0 ?_
        refine zH 1 ?_
        refine zH 2 ?_
        (try simp only [Act.put, List.setIfInBounds_toArray, List.set_cons_zero, List.set_cons_succ])
        refine zH 3 ?_
        refine zH 4 ?_
        refine zH 5 ?_
        refine zH 6 ?_
        (try simp only [Act.put, List.setIfInBounds_toArray, List.set_cons_zero, List.set_cons_succ])
        refine wpAnyH_ready (rs := [7]) (by kernel_rfl) (by simp) (AllReadyH.cons (o := { dst := (some 98), op := (Go.Op.call { callee := (Go.Callee.value (Go.Operand.func 71)), args := #[(Go.Operand.tmp 92), (Go.Operand.tmp 96), (Go.Operand.tmp 97)], argTypes := #[95, 89, 86] }), type := 4, pos := "schema.go:185", after := #[{ on := 1, ground := Go.Ground.data }, { on := 5, ground := Go.Ground.data }, { on := 6, ground := Go.Ground.data }], guard := none }) rfl (fun K hK => ?_) AllReadyH.nil)
        go_simp
        (go_at_call 71; refine (HRES.out _ _ _ _ (HU4.out.trans HP.out.drew (fun _ _ h => h)) (Rp.row_pure HRW.out ((Upd.refl (fun _ => False) _).drew))).mono ?_; rintro r w9 ⟨rfl, hu⟩; have HP9 := As.mk (HP.out.drew.trans hu (fun _ _ h => h)); clear hu)
        refine hK.out _ _ (by first | exact HCEL.out _ HP9.out | exact HCEL.out _ HP.out.drew) (fun hHeld => ?_)
        clear hK K
        (try simp only [Act.put, List.setIfInBounds_toArray, List.set_cons_zero, List.set_cons_succ])
        refine zH 8 ?_
        refine wpAnyH_done (by kernel_rfl) ?_ _
        go_wp2
        go_ret
        exact ⟨by rw [HKS.out]; rfl, HU4.out.trans HP9.out (fun _ _ h => h)⟩
set_option maxRecDepth 100000 in
set_option maxHeartbeats 4000000 in
theorem May_in {w : World} {cb : Nat} {F : Nat → Prop} {A : Option Addr} {c : Nat} {l : List Tok} {n : Nat} {t : Int} {R : Spec × Ex} (h : SchR w cb houseRules houseGroups) (hr : tokR.row w F A l) (hb : l.length ≤ 2048) (hlc : l.length ≤ c) (ok : (houseCheck l).2 = 0) (hn : n ≤ l.length) (hP : AtP l n R) (hw : ∃ (j yt : Nat) (y : Tok), aroundL l n = j ∧ l[j]? = some y ∧ y.k = 1 ∧ y.t = yt ∧ 1 ≤ yt ∧ houseRules[yt]? = some R) :
    Calls Tryz.prog 21 #[.pointer (some ⟨cb, 0, none⟩), .slice A l.length c, .int .i64 n, .int .i64 t] w fun r w' => r = .returned (.bool (regAccepts R.2 houseGroups (mayGo l n t (kidsL l (aroundL l n)) false))) ∧ Pure w w' := by
  have HS := As.mk h
  have HR := As.mk hr
  have HKD0 := As.mk hP.kids
  have HCK := As.mk (house_check (c := c) h hr (by omega))
  rw [ok] at HCK
  have HAR := As.mk (fun (W : World) (hu : Pure w W) => around_calls (c := c) (at' := (n : Int)) (Rp.row_pure hr hu) (by omega) hlc)
  obtain ⟨j, yt, y, ha, hy, hy1, hyt, hyt1, hyR⟩ := hw
  have HKI := As.mk (fun (W : World) (hu : Pure w W) => Kids_in (c := c) (Rp.row_pure hr hu) (by omega) hy hy1)
  obtain ⟨xR, eR⟩ := R
  obtain ⟨z0, hy0⟩ : ∃ z0, houseRules[0]? = some z0 := ⟨_, List.getElem?_eq_getElem (by rw [house_len]; decide)⟩
  obtain ⟨x0, e0⟩ := z0
  rw [ha] at HAR HKD0
  rw [ha]
  have HKL := As.mk (show (kidsL l (j : Int)).length ≤ 2048 by have := kidsL_len l (j : Int); omega)
  obtain ⟨b0, o0, cL, AG, cG, p0, p1, hcb, hle, hb0, hrow, hgrow⟩ := rule_row h
  have HG := As.mk hgrow
  obtain ⟨b0', o0', A1, c1, hA, _, _, d0, d1, d2, d3, d4, d5, d6, d7, d8, d9, hl1, hx1⟩ := rule_at hrow hy0
  simp only [Option.some.injEq, Addr.mk.injEq] at hA
  obtain ⟨rfl, rfl, _⟩ := hA
  simp only [Nat.zero_mul, Nat.add_zero] at d0 d1 d2 d3 d4 d5 d6 d7 d8 d9
  obtain ⟨b0', o0', A2, c2, hA, _, _, g0, g1, g2, g3, g4, g5, g6, g7, g8, g9, hl2, hx2⟩ := rule_at hrow hyR
  simp only [Option.some.injEq, Addr.mk.injEq] at hA
  obtain ⟨rfl, rfl, _⟩ := hA
  have hytl : yt < 8 := by have := (List.getElem?_eq_some_iff.1 hyR).1; rw [house_len] at this; exact this
  have hyti : (yt : Int) < 8 := by omega
  obtain ⟨bt, ot, rfl, _, hbt, q0, q1, q2, q3⟩ := tok_at hr hy
  rw [hyt] at q1
  have hjl : j < l.length := (List.getElem?_eq_some_iff.1 hy).1
  have HMEM := As.mk (List.mem_of_getElem? hyR)
  have HXR := As.mk hx2
  have HBT := As.mk (fun (bx : Nat) (_ : bx = bx) => trivial)
  have t1 : decide ((n : Int) < 0) = false := by simp
  have t2 : decide ((n : Int) > (l.length : Int)) = false := by simp; omega
  have t3 : decide ((l.length : Int) < (n : Int)) = false := by simp; omega
  have t4 : decide (l.length < n) = false := by simp; omega
  clear h hr ok hP hrow hgrow hx1 ha hy hy1 hyt hyR hx2 hy0
  go_enter Tryz.func21, Tryz.ntmps21
  go_wp2_with (first | (go_at_call 77; refine (HAR.out w1 HU1.out).mono ?_; rintro r w2 ⟨rfl, hu⟩; have HU2 := As.mk (HU1.out.trans hu (fun _ _ h => h)); obtain ⟨oc, of⟩ := Pure.olds HU2.out; have hz2 := HU2.out.size; clear hu) | (go_at_call 17; refine HCK.out.mono ?_; rintro r w1 ⟨rfl, hu⟩; have HU1 := As.mk hu; clear hu))
  obtain ⟨W3, hW3⟩ : ∃ W3, W3 = w2.alloc (.cells #[.string x0.name, .string x0.expr, .bool x0.leaf, .int .i64 x0.marks, .int .i64 x0.least, .int .i64 x0.most, .bool x0.lines, .int .i64 e0.k, .string e0.name, .slice A1 e0.l.length c1] 97) := ⟨_, rfl⟩
  have HU3 := As.mk (show Pure w W3 from hW3 ▸ HU2.out.alloc _)
  have hW3b : W3.heap[w2.heap.size]? = some (.cells #[.string x0.name, .string x0.expr, .bool x0.leaf, .int .i64 x0.marks, .int .i64 x0.least, .int .i64 x0.most, .bool x0.lines, .int .i64 e0.k, .string e0.name, .slice A1 e0.l.length c1] 97 (0, 0)) := hW3 ▸ heap_alloc_new w2 _
  have HW3B := As.mk hW3b
  have hz3 : w2.heap.size < W3.heap.size := (Array.getElem?_eq_some_iff.1 hW3b).1
  have HZ := As.mk (And.intro hz2 hz3)
  have HSK7 : As (∀ V, Pure W3 V → V.cell? ⟨cb, 0, none⟩ = some (.slice (some ⟨b0, o0, none⟩) 8 cL) ∧ V.cell? ⟨bt, ot + j * 4 + 1, none⟩ = some (.int .i64 (yt : Int)) ∧ V.cell? ⟨b0, o0 + yt * 10, none⟩ = some (.string xR.name) ∧ V.cell? ⟨b0, o0 + yt * 10 + 1, none⟩ = some (.string xR.expr) ∧ V.cell? ⟨b0, o0 + yt * 10 + 2, none⟩ = some (.bool xR.leaf) ∧ V.cell? ⟨b0, o0 + yt * 10 + 3, none⟩ = some (.int .i64 xR.marks) ∧ V.cell? ⟨b0, o0 + yt * 10 + 4, none⟩ = some (.int .i64 xR.least) ∧ V.cell? ⟨b0, o0 + yt * 10 + 5, none⟩ = some (.int .i64 xR.most) ∧ V.cell? ⟨b0, o0 + yt * 10 + 6, none⟩ = some (.bool xR.lines) ∧ V.cell? ⟨b0, o0 + yt * 10 + 7, none⟩ = some (.int .i64 eR.k) ∧ V.cell? ⟨b0, o0 + yt * 10 + 8, none⟩ = some (.string eR.name) ∧ V.cell? ⟨b0, o0 + yt * 10 + 9, none⟩ = some (.slice A2 eR.l.length c2) ∧ V.frozen? ⟨w2.heap.size, 0, none⟩ = false ∧ V.frozen? ⟨w2.heap.size, 1, none⟩ = false ∧ V.frozen? ⟨w2.heap.size, 2, none⟩ = false ∧ V.frozen? ⟨w2.heap.size, 3, none⟩ = false ∧ V.frozen? ⟨w2.heap.size, 4, none⟩ = false ∧ V.frozen? ⟨w2.heap.size, 5, none⟩ = false ∧ V.frozen? ⟨w2.heap.size, 6, none⟩ = false ∧ V.frozen? ⟨w2.heap.size, 7, none⟩ = false ∧ V.frozen? ⟨w2.heap.size, 8, none⟩ = false ∧ V.frozen? ⟨w2.heap.size, 9, none⟩ = false) := ⟨fun V hu => by
    have hu2 := HU3.out.trans hu (fun _ _ h => h)
    have hf : ∀ i, V.frozen? ⟨w2.heap.size, i, none⟩ = false := fun i => (hu.frozen hz3 (fun h => h)).trans (by simp [World.frozen?, hW3b])
    exact ⟨(hu2.cell hcb (fun h => h)).trans p0, (hu2.cell hbt (fun h => h)).trans q1, (hu2.cell hb0 (fun h => h)).trans g0, (hu2.cell hb0 (fun h => h)).trans g1, (hu2.cell hb0 (fun h => h)).trans g2, (hu2.cell hb0 (fun h => h)).trans g3, (hu2.cell hb0 (fun h => h)).trans g4, (hu2.cell hb0 (fun h => h)).trans g5, (hu2.cell hb0 (fun h => h)).trans g6, (hu2.cell hb0 (fun h => h)).trans g7, (hu2.cell hb0 (fun h => h)).trans g8, (hu2.cell hb0 (fun h => h)).trans g9, hf 0, hf 1, hf 2, hf 3, hf 4, hf 5, hf 6, hf 7, hf 8, hf 9⟩⟩
  have HW3D := As.mk (show W3.drew.heap[w2.heap.size]? = some (.cells #[.string x0.name, .string x0.expr, .bool x0.leaf, .int .i64 x0.marks, .int .i64 x0.least, .int .i64 x0.most, .bool x0.lines, .int .i64 e0.k, .string e0.name, .slice A1 e0.l.length c1] 97 (0, 0)) from hW3b)
  rw [← hW3]
  clear hW3 hW3b g0 g1 g2 g3 g4 g5 g6 g7 g8 g9 d0 d1 d2 d3 d4 d5 d6 d7 d8 d9
  refine wp_region_T (P := Tryz.prog) (fun V => V.cell? ⟨cb, 0, none⟩ = some (.slice (some ⟨b0, o0, none⟩) 8 cL) ∧ V.cell? ⟨bt, ot + j * 4 + 1, none⟩ = some (.int .i64 (yt : Int)) ∧ V.cell? ⟨b0, o0 + yt * 10, none⟩ = some (.string xR.name) ∧ V.cell? ⟨b0, o0 + yt * 10 + 1, none⟩ = some (.string xR.expr) ∧ V.cell? ⟨b0, o0 + yt * 10 + 2, none⟩ = some (.bool xR.leaf) ∧ V.cell? ⟨b0, o0 + yt * 10 + 3, none⟩ = some (.int .i64 xR.marks) ∧ V.cell? ⟨b0, o0 + yt * 10 + 4, none⟩ = some (.int .i64 xR.least) ∧ V.cell? ⟨b0, o0 + yt * 10 + 5, none⟩ = some (.int .i64 xR.most) ∧ V.cell? ⟨b0, o0 + yt * 10 + 6, none⟩ = some (.bool xR.lines) ∧ V.cell? ⟨b0, o0 + yt * 10 + 7, none⟩ = some (.int .i64 eR.k) ∧ V.cell? ⟨b0, o0 + yt * 10 + 8, none⟩ = some (.string eR.name) ∧ V.cell? ⟨b0, o0 + yt * 10 + 9, none⟩ = some (.slice A2 eR.l.length c2) ∧ V.frozen? ⟨w2.heap.size, 0, none⟩ = false ∧ V.frozen? ⟨w2.heap.size, 1, none⟩ = false ∧ V.frozen? ⟨w2.heap.size, 2, none⟩ = false ∧ V.frozen? ⟨w2.heap.size, 3, none⟩ = false ∧ V.frozen? ⟨w2.heap.size, 4, none⟩ = false ∧ V.frozen? ⟨w2.heap.size, 5, none⟩ = false ∧ V.frozen? ⟨w2.heap.size, 6, none⟩ = false ∧ V.frozen? ⟨w2.heap.size, 7, none⟩ = false ∧ V.frozen? ⟨w2.heap.size, 8, none⟩ = false ∧ V.frozen? ⟨w2.heap.size, 9, none⟩ = false) 11 (by kernel_rfl) ?_ (fun hHeld => ?_)
  · exact HSK7.out _ ((Upd.refl _ _).drew)
  refine zT 0 ?_
  refine zT 1 ?_
  (try simp only [Act.put, List.setIfInBounds_toArray, List.set_cons_zero, List.set_cons_succ])
  refine zT 2 ?_
  refine zT 3 ?_
  refine zT 4 ?_
  refine zT 5 ?_
  (try simp only [Act.put, List.setIfInBounds_toArray, List.set_cons_zero, List.set_cons_succ])
  refine zT 6 ?_
  refine zT 7 ?_
  refine zT 8 ?_
  refine zT 9 ?_
  (try simp only [Act.put, List.setIfInBounds_toArray, List.set_cons_zero, List.set_cons_succ])
  refine zT 10 ?_
  refine oT 11 (fun K hK => ?_)
  refine step_store_row rfl _ _ _ rfl w2.heap.size #[.string xR.name, .string xR.expr, .bool xR.leaf, .int .i64 xR.marks, .int .i64 xR.least, .int .i64 xR.most, .bool xR.lines, .int .i64 eR.k, .string eR.name, .slice A2 eR.l.length c2] (by rfl) (by rfl) 97 _ HW3D.out (by kernel_rfl) (by rfl) (by first | kernel_rfl | simp [Value.oneCell']) ?_
  refine hK.out _ _ (fun h => absurd rfl h) (fun hHeld => ?_)
  clear hK K
  (try simp only [Act.put, List.setIfInBounds_toArray, List.set_cons_zero, List.set_cons_succ])
  refine wpAnyT_done (by kernel_rfl) ?_ _
  obtain ⟨W5, hW5⟩ : ∃ W5, W5 = W3.drew.setRow w2.heap.size #[.string xR.name, .string xR.expr, .bool xR.leaf, .int .i64 xR.marks, .int .i64 xR.least, .int .i64 xR.most, .bool xR.lines, .int .i64 eR.k, .string eR.name, .slice A2 eR.l.length c2] := ⟨_, rfl⟩
  have HU5 := As.mk (show Pure w W5 from hW5 ▸ HU3.out.drew.trans (setRow_upd W3.drew w2.heap.size _) (fun q hq h => by have := HZ.out.1; omega))
  have HB5 := As.mk (show W5.heap[w2.heap.size]? = some (.cells #[.string xR.name, .string xR.expr, .bool xR.leaf, .int .i64 xR.marks, .int .i64 xR.least, .int .i64 xR.most, .bool xR.lines, .int .i64 eR.k, .string eR.name, .slice A2 eR.l.length c2] 97 (0, 0)) from hW5 ▸ setRow_heap W3.drew w2.heap.size _ _ _ _ HW3D.out)
  rw [← hW5]
  clear hW5
  go_wp2_with (go_at_call 81; refine (HKI.out W5 HU5.out).mono ?_; rintro r w4 ⟨v4, rfl, ho, hu⟩; have HO4 := As.mk ho; have HP4 := As.mk hu; have HU4 := As.mk (HU5.out.trans hu (fun _ _ h => h)); obtain ⟨A4, c4, rfl, hl4, hr4⟩ := Rp.own_slice ho; have HR4 := As.mk hr4; clear hu ho hr4; apply As.out)
  refine ⟨?_⟩
  have HM := As.mk (show (xR, eR) ∈ houseRules from HMEM.out)
  have HB4 := As.mk ((HP4.out.block w2.heap.size (Array.getElem?_eq_some_iff.1 HB5.out).1 (fun h => h)).trans HB5.out)
  have HCEL : As (∀ V, Pure w4 V → V.cell? ⟨w2.heap.size, 7, none⟩ = some (.int .i64 eR.k) ∧ V.cell? ⟨w2.heap.size, 8, none⟩ = some (.string eR.name) ∧ V.cell? ⟨w2.heap.size, 9, none⟩ = some (.slice A2 eR.l.length c2) ∧ V.cell? ⟨cb, 1, none⟩ = some (.slice AG houseGroups.length cG)) := ⟨fun V hu => by
    have hb := (hu.block w2.heap.size (Array.getElem?_eq_some_iff.1 HB4.out).1 (fun h => h)).trans HB4.out
    refine ⟨?_, ?_, ?_, ((HU4.out.trans hu (fun _ _ h => h)).cell hcb (fun h => h)).trans p1⟩ <;> (unfold World.cell?; simp only [hb]; rfl)⟩
  have HACC := As.mk (fun (V : World) (hu : Pure w V) (Aw : Option Addr) (cw : Nat) (wd : List Int) (Fw : Nat → Prop) (hw : intRS.row V Fw Aw wd) (hwl : wd.length ≤ 1048576) => acc_calls (c := c2) (d := cG) (cw := cw) (SchR.made house_ok HG.out hu HM.out (Rp.row_move (fun k hk hl => ⟨hl, Nat.lt_of_lt_of_le hl hu.size, hu.block k hl (fun h => h)⟩) HXR.out)) hw (by omega))
  have hkl4 := HKL.out
  generalize hks : kidsL l (j : Int) = ks at *
  have HKS := As.mk hks
  clear hks HKI HAR HCK HB5 HW3B HP4 HU3 HU2 HU1
  go_wp2
  go_loopg [13, 14, 61] ks.length (fun gg vv pv kv wr => ∃ (k : Nat) (put : Bool), k + gg = ks.length ∧ kv = .int .i64 k ∧ pv = .bool put ∧ As (∃ word : List Int, intRS.own 3 wr (fun q => w4.heap.size ≤ q) vv word ∧ word ++ mayGo l n t (ks.drop k) put = mayGo l n t ks false ∧ word.length ≤ 2 * k ∧ Pure w4 wr))
  case atStart => exact ⟨0, false, by omega, rfl, rfl, ⟨[], Rp.own_nil _ _ _ _, rfl, by simp, Upd.refl _ _⟩⟩
  case round =>
    obtain ⟨k, put, hk, rfl, rfl, HC⟩ := hrel
    obtain ⟨word, hown, hgo, hwl, hp⟩ := HC.out
    have HO := As.mk hown
    have HP := As.mk hp
    have HWL := As.mk hwl
    by_cases hlt : k < ks.length
    · obtain ⟨p, hp'⟩ : ∃ p, ks[k]? = some p := ⟨_, List.getElem?_eq_getElem hlt⟩
      obtain ⟨i, x, rfl, hx, _⟩ := HKD0.out p (List.mem_of_getElem? hp')
      obtain ⟨kb, ko, kcs, hA4, _, hkb, hkr, hkc⟩ := Rp.row_at (Rp.row_pure HR4.out HP.out) hp'
      have hkr2 : kcs = [.int .i64 (i : Int)] := hkr
      subst hkr2
      have f0 := hkc 0 _ rfl
      rw [show intRS.sz = 1 from rfl, Nat.mul_one, Nat.add_zero] at f0
      subst hA4
      obtain ⟨bx, ox, hAx, _, hbx0, x0', x1', x2', x3'⟩ := tok_at HR.out hx
      simp only [Option.some.injEq, Addr.mk.injEq] at hAx
      obtain ⟨rfl, rfl, _⟩ := hAx
      have HUW := As.mk (HU4.out.trans HP.out (fun _ _ h => h))
      replace x1' := (HUW.out.cell hbx0 (fun h => h)).trans x1'
      have hbx : bt < wr.heap.size := Nat.lt_of_lt_of_le hbx0 HUW.out.size
      have HBX := As.mk hbx0
      have hil : i < l.length := (List.getElem?_eq_some_iff.1 hx).1
      have htx : tyAt l (i : Int) = x.t := by unfold tyAt; rw [Int.toNat_natCast, hx]; rfl
      obtain ⟨g1, rfl⟩ : ∃ m, gk = m + 1 := ⟨gk - 1, by omega⟩
      rw [drop_cons hp', mayGo, htx] at hgo
      have HK := As.mk hk
      have hwk : IntKind.i64.wrap ((k : Int) + 1) = (k : Int) + 1 := IntWalk.i64_in _ (by omega)
      clear hown hp hk hp' hx hkc hkr htx HC hwl x0' x2' x3'
      by_cases hc : (n : Int) ≤ (i : Int) ∧ put = false
      · obtain ⟨hc1, rfl⟩ := hc
        rw [if_pos ⟨hc1, rfl⟩] at hgo
        have HE := As.mk (show (word ++ [t]) ++ [x.t] ++ mayGo l n t (ks.drop (k + 1)) true = mayGo l n t ks false by rw [← hgo]; simp)
        have u1 : decide ((i : Int) ≥ (n : Int)) = true := by simpa using hc1
        have u2 : decide ((n : Int) ≤ (i : Int)) = true := by simpa using hc1
        have u3 : decide (n ≤ i) = true := by simpa using hc1
        clear hgo hc1
        go_wp2_with (first | (at_builtin; refine Rp.own_append intRS HO1.out (x.t) [.int .i64 (x.t)] rfl (Fp := fun _ => False) (G := fun q => w4.heap.size ≤ q) (fun _ h => h.elim) (fun _ h _ => h) (fun q hq => by have := HP1.out.size; omega) rfl _ _ 86 _ 8 rfl Tryz.underlying86 int_infoS rfl (by decide) (by decide) rfl (by first | rfl | simp [Act.eval]) (by have := HWL.out; (try simp only [List.length_append, List.length_singleton]); omega) ?_; intro v2 w6 ho1 hu1; have HO2 := As.mk ho1; have HP2 := As.mk (HP1.out.trans hu1 (fun q hq h => by have := Rp.own_block_lt HO1.out q h; omega)); clear ho1 hu1) | (at_builtin; refine Rp.own_append intRS HO.out (t) [.int .i64 (t)] rfl (Fp := fun _ => False) (G := fun q => w4.heap.size ≤ q) (fun _ h => h.elim) (fun _ h _ => h) (fun q hq => by have := HP.out.size; omega) rfl _ _ 86 _ 8 rfl Tryz.underlying86 int_infoS rfl (by decide) (by decide) rfl (by first | rfl | simp [Act.eval]) (by have := HWL.out; omega) ?_; intro v1 w5 ho1 hu1; have HO1 := As.mk ho1; have HP1 := As.mk (HP.out.trans hu1 (fun q hq h => by have := Rp.own_block_lt HO.out q h; omega)); have y1 := (hu1.cell hbx (fun e => by have := (Rp.own_block_lt HO.out _ e).1; have := HU4.out.size; have := HBX.out; omega)).trans x1'; clear ho1 hu1))
        go_roundg g1
        case measure => omega
        case rel => exact ⟨k + 1, true, by have := HK.out; omega, by go_num, rfl, ⟨_, HO2.out, HE.out, by have := HWL.out; simp; omega, HP2.out⟩⟩
      · rw [if_neg hc] at hgo
        have HE := As.mk (show word ++ [x.t] ++ mayGo l n t (ks.drop (k + 1)) put = mayGo l n t ks false by rw [← hgo]; simp)
        have HC2 := As.mk hc
        clear hgo hc
        cases cb1 : decide ((n : Int) ≤ (i : Int)) <;> cases put
        all_goals first
          | (exfalso; exact HC2.out ⟨of_decide_eq_true cb1, rfl⟩)
          | skip
        all_goals
          have u1 : decide ((i : Int) ≥ (n : Int)) = decide ((n : Int) ≤ (i : Int)) := rfl
          rw [cb1] at u1
          have u3 : decide (n ≤ i) = decide ((n : Int) ≤ (i : Int)) := by simp
          rw [cb1] at u3
          go_wp2_with (at_builtin; refine Rp.own_append intRS HO.out (x.t) [.int .i64 (x.t)] rfl (Fp := fun _ => False) (G := fun q => w4.heap.size ≤ q) (fun _ h => h.elim) (fun _ h _ => h) (fun q hq => by have := HP.out.size; omega) rfl _ _ 86 _ 8 rfl Tryz.underlying86 int_infoS rfl (by decide) (by decide) rfl (by first | rfl | simp [Act.eval]) (by have := HWL.out; omega) ?_; intro v2 w6 ho1 hu1; have HO2 := As.mk ho1; have HP2 := As.mk (HP.out.trans hu1 (fun q hq h => by have := Rp.own_block_lt HO.out q h; omega)); clear ho1 hu1)
          go_roundg g1
          case measure => omega
          case rel => exact ⟨k + 1, _, by have := HK.out; omega, by go_num, rfl, ⟨_, HO2.out, HE.out, by have := HWL.out; simp; omega, HP2.out⟩⟩
    · obtain rfl : k = ks.length := by omega
      rw [List.drop_length, mayGo] at hgo
      have hwk : word.length ≤ 4096 := by omega
      clear hown hk hp HC hwl HKD0 HR4 HO4
      cases put
      · have HE := As.mk (show word ++ [t] = mayGo l n t ks false by rw [← hgo]; simp)
        clear hgo
        have HRES : As (∀ (V : World) (Aw : Option Addr) (cw : Nat) (Fw : Nat → Prop), Pure w V → intRS.row V Fw Aw (word ++ [t]) → Calls Tryz.prog 71 #[.agg #[.int .i64 eR.k, .string eR.name, .slice A2 eR.l.length c2], .slice AG houseGroups.length cG, .slice Aw (word.length + 1) cw] V fun r w' => r = .returned (.bool (regAccepts eR houseGroups (mayGo l n t ks false))) ∧ Pure V w') := ⟨fun V Aw cw Fw hu hrw => by have h9 := HACC.out V hu Aw cw _ Fw hrw (by simp; omega); rw [List.length_append, List.length_singleton, HE.out] at h9; exact h9⟩
        clear HACC HE
        go_wp2_with (at_builtin; refine Rp.own_append intRS HO.out (t) [.int .i64 (t)] rfl (Fp := fun _ => False) (G := fun q => w4.heap.size ≤ q) (fun _ h => h.elim) (fun _ h _ => h) (fun q hq => by have := HP.out.size; omega) rfl _ _ 86 _ 8 rfl Tryz.underlying86 int_infoS rfl (by decide) (by decide) rfl (by first | rfl | simp [Act.eval]) (by have := HWL.out; omega) ?_; intro v2 w6 ho1 hu1; have HO2 := As.mk ho1; have HP2 := As.mk (HP.out.trans hu1 (fun q hq h => by have := Rp.own_block_lt HO.out q h; omega)); obtain ⟨A6, c6, rfl, hl6, hr6⟩ := Rp.own_slice ho1; have HR6 := As.mk hr6; clear ho1 hu1 hl6 hr6)
        try rw [List.length_append, List.length_singleton]
        have HCD := HCEL.out _ HP2.out
        have HRW := HR6
        refine wp_region_held_drew (S := (fun V => V.cell? ⟨w2.heap.size, 7, none⟩ = some (.int .i64 eR.k) ∧ V.cell? ⟨w2.heap.size, 8, none⟩ = some (.string eR.name) ∧ V.cell? ⟨w2.heap.size, 9, none⟩ = some (.slice A2 eR.l.length c2) ∧ V.cell? ⟨cb, 1, none⟩ = some (.slice AG houseGroups.length cG))) (by kernel_rfl) ?_ (fun hHeld => ?_)
        · first | exact HCEL.out _ HP9.out | exact HCEL.out _ HP2.out.drew
        refine zH 0 ?_
        refine zH 1 ?_
        (try simp only [Act.put, List.setIfInBounds_toArray, List.set_cons_zero, List.set_cons_succ])
        refine zH 2 ?_
        refine zH 3 ?_
        refine zH 4 ?_
        refine zH 5 ?_
        (try simp only [Act.put, List.setIfInBounds_toArray, List.set_cons_zero, List.set_cons_succ])
        refine zH 6 ?_
        refine wpAnyH_ready (rs := [7]) (by kernel_rfl) (by simp) (AllReadyH.cons (o := { dst := (some 98), op := (Go.Op.call { callee := (Go.Callee.value (Go.Operand.func 71)), args := #[(Go.Operand.tmp 92), (Go.Operand.tmp 96), (Go.Operand.tmp 97)], argTypes := #[95, 89, 86] }), type := 4, pos := "schema.go:185", after := #[{ on := 1, ground := Go.Ground.data }, { on := 5, ground := Go.Ground.data }, { on := 6, ground := Go.Ground.data }], guard := none }) rfl (fun K hK => ?_) AllReadyH.nil)
        go_simp
        (go_at_call 71; refine (HRES.out _ _ _ _ (HU4.out.trans HP2.out.drew (fun _ _ h => h)) (Rp.row_pure HRW.out ((Upd.refl (fun _ => False) _).drew))).mono ?_; rintro r w9 ⟨rfl, hu⟩; have HP9 := As.mk (HP2.out.drew.trans hu (fun _ _ h => h)); clear hu)
        refine hK.out _ _ (by first | exact HCEL.out _ HP9.out | exact HCEL.out _ HP2.out.drew) (fun hHeld => ?_)
        clear hK K
        (try simp only [Act.put, List.setIfInBounds_toArray, List.set_cons_zero, List.set_cons_succ])
        refine zH 8 ?_
        refine wpAnyH_done (by kernel_rfl) ?_ _
        go_wp2
        go_ret
        exact ⟨by rw [HKS.out]; rfl, HU4.out.trans HP9.out (fun _ _ h => h)⟩
      · have HE := As.mk (show word = mayGo l n t ks false by rw [← hgo]; simp)
        clear hgo
        obtain ⟨A6, c6, rfl, hl6, hr6⟩ := Rp.own_slice HO.out
        have HRW := As.mk hr6
        have HRES : As (∀ (V : World) (Aw : Option Addr) (cw : Nat) (Fw : Nat → Prop), Pure w V → intRS.row V Fw Aw word → Calls Tryz.prog 71 #[.agg #[.int .i64 eR.k, .string eR.name, .slice A2 eR.l.length c2], .slice AG houseGroups.length cG, .slice Aw word.length cw] V fun r w' => r = .returned (.bool (regAccepts eR houseGroups (mayGo l n t ks false))) ∧ Pure V w') := ⟨fun V Aw cw Fw hu hrw => by have h9 := HACC.out V hu Aw cw _ Fw hrw (by omega); rw [← HE.out]; exact h9⟩
        clear HACC HE hr6
        go_wp2
        refine wp_region_held_drew (S := (fun V => V.cell? ⟨w2.heap.size, 7, none⟩ = some (.int .i64 eR.k) ∧ V.cell? ⟨w2.heap.size, 8, none⟩ = some (.string eR.name) ∧ V.cell? ⟨w2.heap.size, 9, none⟩ = some (.slice A2 eR.l.length c2) ∧ V.cell? ⟨cb, 1, none⟩ = some (.slice AG houseGroups.length cG))) (by kernel_rfl) ?_ (fun hHeld => ?_)
        · first | exact HCEL.out _ HP9.out | exact HCEL.out _ HP.out.drew
        refine zH 0 ?_
        (try simp only [Act.put, List.setIfInBounds_toArray, List.set_cons_zero, List.set_cons_succ])
        refine zH 1 ?_
        refine zH 2 ?_
        refine zH 3 ?_
        refine zH 4 ?_
        (try simp only [Act.put, List.setIfInBounds_toArray, List.set_cons_zero, List.set_cons_succ])
        refine zH 5 ?_
        refine zH 6 ?_
        refine wpAnyH_ready (rs := [7]) (by kernel_rfl) (by simp) (AllReadyH.cons (o := { dst := (some 98), op := (Go.Op.call { callee := (Go.Callee.value (Go.Operand.func 71)), args := #[(Go.Operand.tmp 92), (Go.Operand.tmp 96), (Go.Operand.tmp 97)], argTypes := #[95, 89, 86] }), type := 4, pos := "schema.go:185", after := #[{ on := 1, ground := Go.Ground.data }, { on := 5, ground := Go.Ground.data }, { on := 6, ground := Go.Ground.data }], guard := none }) rfl (fun K hK => ?_) AllReadyH.nil)
        go_simp
        (go_at_call 71; refine (HRES.out _ _ _ _ (HU4.out.trans HP.out.drew (fun _ _ h => h)) (Rp.row_pure HRW.out ((Upd.refl (fun _ => False) _).drew))).mono ?_; rintro r w9 ⟨rfl, hu⟩; have HP9 := As.mk (HP.out.drew.trans hu (fun _ _ h => h)); clear hu)
        refine hK.out _ _ (by first | exact HCEL.out _ HP9.out | exact HCEL.out _ HP.out.drew) (fun hHeld => ?_)
        clear hK K
        (try simp only [Act.put, List.setIfInBounds_toArray, List.set_cons_zero, List.set_cons_succ])
        refine zH 8 ?_
        (try simp only [Act.put, List.setIfInBounds_toArray, List.set_cons_zero, List.set_cons_succ])
        refine wpAnyH_done (by kernel_rfl) ?_ _
        go_wp2
        go_ret
        exact ⟨by rw [HKS.out]; rfl, HU4.out.trans HP9.out (fun _ _ h => h)⟩
theorem May_ok {w : World} {cb : Nat} {F : Nat → Prop} {A : Option Addr} {c : Nat} {l : List Tok} {n : Nat} {t : Int} {R : Spec × Ex} (h : SchR w cb houseRules houseGroups) (hr : tokR.row w F A l) (hb : l.length ≤ 2048) (hlc : l.length ≤ c) (ok : (houseCheck l).2 = 0) (hn : n ≤ l.length) (hP : AtP l n R)  :
    Calls Tryz.prog 21 #[.pointer (some ⟨cb, 0, none⟩), .slice A l.length c, .int .i64 n, .int .i64 t] w fun r w' => r = .returned (.bool (regAccepts R.2 houseGroups (mayGo l n t (kidsL l (aroundL l n)) false))) ∧ Pure w w' := by
  rcases hP.whole with hw | hw
  · exact May_whole h hr hb hlc ok hn hP hw
  · exact May_in h hr hb hlc ok hn hP hw
set_option maxRecDepth 100000 in
set_option maxHeartbeats 4000000 in
theorem May_no {w : World} {cb : Nat} {F : Nat → Prop} {A : Option Addr} {c : Nat} {l : List Tok} {n t : Int} (h : SchR w cb houseRules houseGroups) (hr : tokR.row w F A l) (hb : l.length ≤ 1048576 * 4) (hno : (houseCheck l).2 ≠ 0 ∨ n < 0 ∨ (l.length : Int) < n) :
    Calls Tryz.prog 21 #[.pointer (some ⟨cb, 0, none⟩), .slice A l.length c, .int .i64 n, .int .i64 t] w fun r w' => r = .returned (.bool false) ∧ Pure w w' := by
  have HCK := As.mk (house_check (c := c) h hr hb)
  have HNO := As.mk hno
  clear h hr hno
  generalize houseCheck l = ck at *
  obtain ⟨f1, f2⟩ := ck
  cases b1 : decide (f2 = 0) <;> cases b2 : decide (n < 0) <;> cases b3 : decide ((l.length : Int) < n)
  all_goals first
    | (exfalso; have h1 := of_decide_eq_true b1; have h2 := of_decide_eq_false b2; have h3 := of_decide_eq_false b3; rcases HNO.out with h | h | h <;> first | exact h h1 | exact h2 h | exact h3 h)
    | skip
  all_goals
    have c1 : (f2 != 0) = !decide (f2 = 0) := rfl
    rw [b1] at c1
    simp only [Bool.not_false, Bool.not_true] at c1
    have c3 : decide (n > (l.length : Int)) = decide ((l.length : Int) < n) := rfl
    rw [b3] at c3
    clear HNO b1
    go_enter Tryz.func21, Tryz.ntmps21
    go_wp2_with (go_at_call 17; refine HCK.out.mono ?_; rintro r w1 ⟨rfl, hu⟩; have HU1 := As.mk hu; clear hu)
    go_ret
    exact ⟨rfl, HU1.out⟩
end Go.Proofs.YtfapglhdakhbeaaGreatDoor
