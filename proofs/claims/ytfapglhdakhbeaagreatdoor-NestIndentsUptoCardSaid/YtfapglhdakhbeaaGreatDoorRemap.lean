/- errors.Is, at a refusal of remap's and an error's number; remap.number. step.Apply, remap.Do. remap.do, remap.Do: a step at a document that stays valid. -/
import Derived.Test.YtfapglhdakhbeaaGreatDoorBase
import Derived.Test.YtfapglhdakhbeaaGreatDoorStepC
import Derived.Test.YtfapglhdakhbeaaGreatDoorStepE
import Derived.Test.YtfapglhdakhbeaaGreatDoorHouseC
import Derived.Test.YtfapglhdakhbeaaGreatDoorProg
import Derived.LaidEql
import Derived.Stop.Asserts
namespace Go.Proofs.YtfapglhdakhbeaaGreatDoor
open Go Go.RowKit Go.Extern.Stop Go.Stop Go.Extern
set_option linter.unusedVariables false
set_option linter.unusedSimpArgs false

theorem errno_info : (Tryz.prog.info? 28).map (·.comparable) = some true := by kernel_rfl
theorem in_errnos (d : Nat) (w : World) (a b : Int) : (Op.equalIn (d + 2) 167 (.iface 28 (.int .i64 a)) (.iface 28 (.int .i64 b))).run Tryz.prog w = .ok (a == b) w := by
  obtain ⟨i, hi, hc⟩ := Option.map_eq_some_iff.1 errno_info
  simp [Op.equalIn, run_underlying Tryz.underlying167, run_underlying Tryz.underlying28, typeInfo, hi, hc]
/-- Two interface values of one integer type are the same just if their numbers are. -/
theorem eql_errnos (w : World) (a b : Int) : (binOp .eql 167 (.iface 28 (.int .i64 a)) (.iface 28 (.int .i64 b))).run Tryz.prog w = .ok (.bool (a == b)) w := by
  simp only [binOp]
  simp [Op.equal, Op.maxDepth, in_errnos 9998 w a b]
theorem isTypeOf (v : Value) (w : World) : (Extern.ReflectliteType.typeOf #[.iface 28 v]).run Tryz.prog w = .ok (.iface 289 (.agg #[typeHandle Tryz.prog 28])) w := by kernel_rfl
theorem isComparable (w : World) : ((Extern.ReflectliteType.method fun t => do Rtype.noPackHeld "Comparable" t; (fun a => Value.bool a.comparable) <$> typeInfo t) #[.agg #[typeHandle Tryz.prog 28]]).run Tryz.prog w = .ok (.bool true) w := by kernel_rfl
theorem isMethodComparable (v : Value) (w : World) : (Go.method 433 289 v "Comparable").run Tryz.prog w = .ok (267, v) w := by kernel_rfl
theorem noIsE (v : Value) (xT : TypeId) (w : World) : (Instr.typeAssert (.iface 28 v) xT 302 true).run Tryz.prog w = .ok (.tuple #[.nilIface, .bool false]) w := run_typeAssert_lacksB Tryz.underlying302 (by kernel_rfl) (by kernel_rfl) v xT w
theorem noUnwrapE (v : Value) (xT : TypeId) (w : World) : (Instr.typeAssert (.iface 28 v) xT 296 true).run Tryz.prog w = .ok (.tuple #[.nilIface, .bool false]) w := run_typeAssert_lacksB Tryz.underlying296 (by kernel_rfl) (by kernel_rfl) v xT w
theorem noUnwrapsE (v : Value) (xT : TypeId) (w : World) : (Instr.typeAssert (.iface 28 v) xT 297 true).run Tryz.prog w = .ok (.tuple #[.nilIface, .bool false]) w := run_typeAssert_lacksB Tryz.underlying297 (by kernel_rfl) (by kernel_rfl) v xT w
theorem noIsR (v : Value) (xT : TypeId) (w : World) : (Instr.typeAssert (.iface 246 v) xT 302 true).run Tryz.prog w = .ok (.tuple #[.nilIface, .bool false]) w := run_typeAssert_lacksB Tryz.underlying302 (by kernel_rfl) (by kernel_rfl) v xT w
theorem hasUnwrapR (v : Value) (xT : TypeId) (w : World) : (Instr.typeAssert (.iface 246 v) xT 296 true).run Tryz.prog w = .ok (.tuple #[.iface 246 v, .bool true]) w := run_typeAssert_hasB Tryz.underlying296 (by kernel_rfl) v xT w
theorem methodUnwrapR (v : Value) (w : World) : (Go.method 433 246 v "Unwrap").run Tryz.prog w = .ok (261, v) w := by kernel_rfl
theorem unwrap_calls (why : Int) (w : World) : Calls Tryz.prog 261 #[.agg #[.int .i64 why]] w fun r w' => r = .returned (.iface 28 (.int .i64 why)) ∧ Pure w w' := by
  go_enter Tryz.func261, Tryz.ntmps261
  go_wp2
  go_ret
  exact ⟨rfl, by first | exact Upd.refl _ _ | exact Upd.alloc1 _ _ _⟩
set_option maxRecDepth 100000 in
set_option maxHeartbeats 4000000 in
theorem is_refused (why k : Int) (w : World) : Calls Tryz.prog 213 #[.iface 246 (.agg #[.int .i64 why]), .iface 28 (.int .i64 k), .bool true] w fun r w' => r = .returned (.bool (why == k)) ∧ Pure w w' := by
  have nE := noIsE
  have uE := noUnwrapE
  have vE := noUnwrapsE
  have nR := noIsR
  have uR := hasUnwrapR
  have mU := methodUnwrapR
  have heq := eql_errnos
  have hty := fun w => run_eql_iface_types (P := Tryz.prog) 246 28 (.agg #[.int .i64 why]) (.int .i64 k) Tryz.underlying167 (by decide) w
  cases hb : (why == k)
  all_goals
    go_enter Tryz.func213, Tryz.ntmps213
    go_wp2
    refine wp_loop_rounds 2 ?_
    rw [rounds_succ]
    go_wp2_with (go_at_call 261; refine (unwrap_calls why _).mono ?_; rintro e w1 ⟨rfl, hu⟩; have HU1 := As.mk hu; clear hu)
    rw [rounds_succ]
    go_wp2
    go_ret
    exact ⟨rfl, HU1.out⟩
set_option maxRecDepth 100000 in
set_option maxHeartbeats 4000000 in
theorem Is_refused (why k : Int) (w : World) : Calls Tryz.prog 183 #[.iface 246 (.agg #[.int .i64 why]), .iface 28 (.int .i64 k)] w fun r w' => r = .returned (.bool (why == k)) ∧ Pure w w' := by
  have hT := @run_callFunc_extern Tryz.prog 212 _ Extern.ReflectliteType.typeOf Tryz.func212 (by kernel_rfl) (by kernel_rfl) (by kernel_rfl) (by kernel_rfl)
  have hC := @run_callFunc_extern Tryz.prog 267 _ (Extern.ReflectliteType.method fun t => do Rtype.noPackHeld "Comparable" t; pure (.bool (← typeInfo t).comparable)) Tryz.func267 (by kernel_rfl) (by kernel_rfl) (by kernel_rfl) (by kernel_rfl)
  have tT := isTypeOf
  have cT := isComparable
  have mR := isMethodComparable
  have hn1 := fun w => run_eql_iface_nil_left (P := Tryz.prog) w 246 (.agg #[.int .i64 why]) Tryz.underlying167
  have HI := As.mk (is_refused why k)
  go_enter Tryz.func183, Tryz.ntmps183
  go_wp2_with (go_at_call 213; refine (HI.out _).mono ?_; rintro e w1 ⟨rfl, hu⟩; have HU1 := As.mk hu; clear hu)
  go_ret
  exact ⟨rfl, HU1.out⟩
set_option maxRecDepth 100000 in
set_option maxHeartbeats 4000000 in
theorem number_calls {why : Int} (h : 1 ≤ why ∧ why ≤ 12) (w : World) : Calls Tryz.prog 151 #[.iface 246 (.agg #[.int .i64 why])] w fun r w' => r = .returned (.int .i64 why) ∧ Pure w w' := by
  have HI := As.mk (fun k w => Is_refused why k w)
  have HW := As.mk h
  have h1 := h.1
  have h2 := h.2
  clear h
  go_enter Tryz.func151, Tryz.ntmps151
  go_wp2
  go_loopg [3] 12 (fun gg kv wr => ∃ k : Nat, k + gg = 13 ∧ 1 ≤ k ∧ kv = .int .i64 k ∧ (k : Int) ≤ why ∧ As (Pure w wr))
  case atStart => exact ⟨1, by omega, by omega, rfl, by omega, ⟨Upd.refl _ _⟩⟩
  case round =>
    obtain ⟨k, hk, hk1, rfl, hle, HP⟩ := hrel
    by_cases he : (k : Int) = why
    · have hb : (why == (k : Int)) = true := by simpa using he.symm
      have h12 : (k : Int) ≤ 12 := by omega
      have HI2 := As.mk (HI.out (k : Int))
      rw [hb] at HI2
      have HE := As.mk he
      clear he hb
      go_wp2_with (go_at_call 183; refine (HI2.out _).mono ?_; rintro e w1 ⟨rfl, hu⟩; have HU1 := As.mk hu; clear hu)
      go_ret
      exact ⟨by first | exact rfl | (rw [HE.out]; exact rfl), HP.out.trans HU1.out (fun _ _ h => h)⟩
    · have hb : (why == (k : Int)) = false := by simpa using fun e : why = (k : Int) => he e.symm
      have h12 : (k : Int) ≤ 12 := by omega
      have hlt : (k : Int) < why := by omega
      have HI2 := As.mk (HI.out (k : Int))
      rw [hb] at HI2
      obtain ⟨g1, rfl⟩ : ∃ m, gk = m + 1 := ⟨gk - 1, by omega⟩
      clear he hb
      go_wp2_with (go_at_call 183; refine (HI2.out _).mono ?_; rintro e w1 ⟨rfl, hu⟩; have HU1 := As.mk hu; clear hu)
      go_roundg g1
      case measure => omega
      case rel => exact ⟨k + 1, by omega, by omega, by go_num, by omega, ⟨HP.out.trans HU1.out (fun _ _ h => h)⟩⟩
end Go.Proofs.YtfapglhdakhbeaaGreatDoor
namespace Go.Proofs.YtfapglhdakhbeaaGreatDoor
open Go.RowKit
set_option linter.unusedVariables false
set_option linter.unusedSimpArgs false

set_option maxRecDepth 100000 in
set_option maxHeartbeats 4000000 in
theorem sc_long {w : World} {A : Option Addr} {c : Nat} {s : StepD} (h : s.sl.length > 2048) (hb : s.sl.length ≤ 1048576 * 4) : Calls Tryz.prog 119 #[s.val A c] w fun r w' => r = .returned (.int .i64 2) ∧ Pure w w' := by
  have h1 : decide ((s.sl.length : Int) > 2048) = true := by simp; omega
  have h2 : decide ((2048 : Int) < (s.sl.length : Int)) = true := by simp; omega
  unfold StepD.val
  clear h
  go_enter Tryz.func119, Tryz.ntmps119
  go_wp2
  go_ret
  exact ⟨rfl, Upd.alloc1 _ _ _⟩
theorem stepCheck_calls {w : World} {F : Nat → Prop} {A : Option Addr} {c : Nat} {s : StepD} (hr : tokR.row w F A s.sl) (hb : s.sl.length ≤ 1048576 * 4) : Calls Tryz.prog 119 #[s.val A c] w fun r w' => r = .returned (.int .i64 (stepCheck s)) ∧ Pure w w' := by
  by_cases h : s.sl.length > 2048
  · have e : stepCheck s = 2 := by unfold stepCheck; rw [if_pos h]
    rw [e]
    exact sc_long h hb
  · have e : stepCheck s = if s.ok then 0 else 1 := by unfold stepCheck; rw [if_neg h]
    rw [e]
    obtain ⟨k, fr, tt, gf, gt, ins, sl, mk⟩ := s
    simp only at hr hb h
    by_cases h1 : k = 1
    · subst h1
      exact sc_around hr (by omega)
    · by_cases h0 : k = 0
      · subst h0
        exact sc_replace hr (by omega)
      · by_cases hk : k = 2 ∨ k = 3
        · by_cases hl : sl.length = 0
          · have hn : sl = [] := List.eq_nil_of_length_eq_zero hl
            subst hn
            exact sc_mark_nil (F := F) hk
          · exact sc_mark_ne hr (by omega) hk hl
        · exact sc_other hr (by omega) (by omega)
theorem cells8 {w : World} {k : Nat} {x0 x1 x2 x3 x4 x5 x6 x7 : Value} {t : TypeId} (h : w.heap[k]? = some (.cells #[x0, x1, x2, x3, x4, x5, x6, x7] t (0, 0))) :
    w.cell? ⟨k, 0, none⟩ = some x0 ∧ w.cell? ⟨k, 1, none⟩ = some x1 ∧ w.cell? ⟨k, 2, none⟩ = some x2 ∧ w.cell? ⟨k, 3, none⟩ = some x3 ∧ w.cell? ⟨k, 4, none⟩ = some x4 ∧ w.cell? ⟨k, 5, none⟩ = some x5 ∧ w.cell? ⟨k, 6, none⟩ = some x6 ∧ w.cell? ⟨k, 7, none⟩ = some x7 := by
  refine ⟨?_, ?_, ?_, ?_, ?_, ?_, ?_, ?_⟩ <;> simp [World.cell?, h]
/-- step.do does what it should. -/
def DoC (w : World) (A : Option Addr) (c : Nat) (l : List Tok) (B : Option Addr) (cb : Nat) (s : StepD) : Prop :=
  ∀ W, Pure w W → Calls Tryz.prog 120 #[.slice A l.length c, s.val B cb] W (Fresh W (stepDo l s))
/-- What step.Apply, remap.Do answer. -/
def DocR (w : World) (x : List Tok) (e : Int) (r : Ending) (w' : World) : Prop :=
  ((e = 0 ∧ ∃ B, r = .returned (.tuple #[.slice (some B) x.length x.length, .int .i64 0]) ∧ tokR.row w' (fun k => w.heap.size ≤ k) (some B) x) ∨ (e ≠ 0 ∧ r = .returned (.tuple #[.slice none 0 0, .int .i64 e]))) ∧ Pure w w'
theorem stepDo_len {l : List Tok} {s : StepD} (h : stepCheck s = 0) (ht : s.tt ≤ l.length) : (stepDo l s).length ≤ 2 * l.length + s.sl.length + 10 := by
  obtain ⟨_, h1, h2, h3, h4, _⟩ := step_check_zero.1 h
  unfold stepDo
  split
  · simp only [List.length_append, List.length_take, List.length_drop]; omega
  · split
    · simp only [List.length_append, List.length_take, List.length_drop]; omega
    · simp only [List.length_append, List.length_take, List.length_drop, List.length_map]; omega
theorem flat_len {l : List Tok} (h : (flatCheck l).2 = 0) : l.length ≤ 2048 := by
  unfold flatCheck at h
  split at h
  · simp at h
  · omega
set_option maxRecDepth 100000 in
set_option maxHeartbeats 4000000 in
theorem Apply_calls {w : World} {F G : Nat → Prop} {A B : Option Addr} {c cb : Nat} {l : List Tok} {s : StepD} (hr : tokR.row w F A l) (hs : tokR.row w G B s.sl) (hb : l.length ≤ 1048576 * 4) (hsb : s.sl.length ≤ 1048576 * 4) (hd : (flatCheck l).2 = 0 → stepCheck s = 0 → s.tt ≤ l.length → DoC w A c l B cb s) :
    Calls Tryz.prog 59 #[.slice A l.length c, s.val B cb] w (DocR w (stepDo l s) (stepErr l s)) := by
  have HF := As.mk (fun W (hu : Pure w W) => Check_calls (c := c) (Rp.row_pure hr hu) hb)
  have HC := As.mk (fun W (hu : Pure w W) => stepCheck_calls (c := cb) (Rp.row_pure hs hu) hsb)
  have HE := As.mk (show stepErr l s = if (flatCheck l).2 ≠ 0 then (flatCheck l).2 else if stepCheck s ≠ 0 then stepCheck s else if s.tt > l.length then 1 else if (flatCheck (stepDo l s)).2 = 3 then 4 else (flatCheck (stepDo l s)).2 from rfl)
  have HD := As.mk hd
  have HFO := As.mk (fun (W : World) (Bo : Option Addr) (G2 : Nat → Prop) (h1 : stepCheck s = 0) (h2 : s.tt ≤ l.length) (h0 : l.length ≤ 2048) (hrow : tokR.row W G2 Bo (stepDo l s)) => Check_calls (c := (stepDo l s).length) hrow (by have := stepDo_len h1 h2; have := (step_check_zero.1 h1).1; omega))
  have HSZ := As.mk hb
  clear hr hs hd
  unfold StepD.val DoC at *
  by_cases h0 : (flatCheck l).2 = 0
  · have hlen := flat_len h0
    have HE2 := As.mk (show stepErr l s = if stepCheck s ≠ 0 then stepCheck s else if s.tt > l.length then 1 else if (flatCheck (stepDo l s)).2 = 3 then 4 else (flatCheck (stepDo l s)).2 by rw [HE.out, if_neg (by omega)])
    rw [h0] at HF
    have HD2 := As.mk (HD.out h0)
    clear HE HD h0
    by_cases h1 : stepCheck s = 0
    · have HE3 := As.mk (show stepErr l s = if s.tt > l.length then 1 else if (flatCheck (stepDo l s)).2 = 3 then 4 else (flatCheck (stepDo l s)).2 by rw [HE2.out, if_neg (by omega)])
      rw [h1] at HC
      have HD3 := As.mk (HD2.out h1)
      have HFO2 := As.mk (fun W Bo G2 => HFO.out W Bo G2 h1)
      clear HE2 HD2 h1 HFO
      by_cases h2 : s.tt > l.length
      · have HE4 := As.mk (show stepErr l s = 1 by rw [HE3.out, if_pos h2])
        have t1 : decide (s.tt > (l.length : Int)) = true := by simpa using h2
        have t2 : decide ((l.length : Int) < s.tt) = true := by simpa using h2
        clear h2 HE3 HD3 HFO2
        go_enter Tryz.func59, Tryz.ntmps59
        go_wp2_with (first | (go_at_call 120; refine (HDO.out w2 HU2.out).mono ?_; rintro r w3 ⟨⟨B3, rfl, hrow⟩, hu⟩; have HR3 := As.mk hrow; have HU3a := As.mk hu; have HU3 := As.mk (HU2.out.trans hu (fun _ _ h => h)); clear hu hrow; apply As.out) | (go_at_call 119; refine (HC.out w1 HU1.out).mono ?_; rintro r w2 ⟨rfl, hu⟩; have hb2 := (hu.block _ (lt_of_block HB1.out) (fun h => h)).trans HB1.out; obtain ⟨r0, r1, r2, r3, r4, r5, r6, r7⟩ := cells8 hb2; have HU2 := As.mk (HU1.out.trans hu (fun _ _ h => h)); clear hu hb2) | (go_at_call 69; refine (HF.out _ (Upd.alloc1 _ _ _)).mono ?_; rintro r w1 ⟨rfl, hu⟩; have hb1 := (hu.block w.heap.size (by simp) (fun h => h)).trans (heap_alloc_new w _); obtain ⟨q0, q1, q2, q3, q4, q5, q6, q7⟩ := cells8 hb1; have HB1 := As.mk hb1; have HU1 := As.mk (Upd.trans (Upd.alloc1 (fun _ => False) _ _) hu (fun _ _ h => h)); clear hu hb1))
        go_ret2
        rw [HE4.out]
        exact ⟨.inr ⟨by decide, rfl⟩, HU2.out⟩
      · have HE4 := As.mk (show stepErr l s = if (flatCheck (stepDo l s)).2 = 3 then 4 else (flatCheck (stepDo l s)).2 by rw [HE3.out, if_neg h2])
        have t1 : decide (s.tt > (l.length : Int)) = false := by simpa using h2
        have t2 : decide ((l.length : Int) < s.tt) = false := by simpa using h2
        have HDO := As.mk (HD3.out (by omega))
        have HFO3 := As.mk (fun W Bo G2 => HFO2.out W Bo G2 (by omega) hlen)
        clear h2 HE3 HD3 HFO2
        generalize hxo : stepDo l s = xo at *
        have fin : ∀ e : Int, (flatCheck xo).2 = e → Calls Tryz.prog 59 #[.slice A l.length c, .agg #[.int .i64 s.k, .int .i64 s.fr, .int .i64 s.tt, .int .i64 s.gf, .int .i64 s.gt, .int .i64 s.ins, .slice B s.sl.length cb, .int .i64 s.mark]] w (DocR w xo (stepErr l s)) := by
          intro e he
          rw [he] at HE4 HFO3
          clear he hxo
          by_cases e0 : e = 0
          · subst e0
            have HE5 := As.mk (show stepErr l s = 0 from HE4.out)
            go_enter Tryz.func59, Tryz.ntmps59
            go_wp2_with (first | (go_at_call 120; refine (HDO.out w2 HU2.out).mono ?_; rintro r w3 ⟨⟨B3, rfl, hrow⟩, hu⟩; have HR3 := As.mk hrow; have HU3a := As.mk hu; have HU3 := As.mk (HU2.out.trans hu (fun _ _ h => h)); clear hu hrow; apply As.out) | (go_at_call 119; refine (HC.out w1 HU1.out).mono ?_; rintro r w2 ⟨rfl, hu⟩; have hb2 := (hu.block _ (lt_of_block HB1.out) (fun h => h)).trans HB1.out; obtain ⟨r0, r1, r2, r3, r4, r5, r6, r7⟩ := cells8 hb2; have HU2 := As.mk (HU1.out.trans hu (fun _ _ h => h)); clear hu hb2) | (go_at_call 69; refine (HF.out _ (Upd.alloc1 _ _ _)).mono ?_; rintro r w1 ⟨rfl, hu⟩; have hb1 := (hu.block w.heap.size (by simp) (fun h => h)).trans (heap_alloc_new w _); obtain ⟨q0, q1, q2, q3, q4, q5, q6, q7⟩ := cells8 hb1; have HB1 := As.mk hb1; have HU1 := As.mk (Upd.trans (Upd.alloc1 (fun _ => False) _ _) hu (fun _ _ h => h)); clear hu hb1))
            refine ⟨?_⟩
            go_wp2_with (go_at_call 69; refine (HFO3.out w3 _ _ HR3.out).mono ?_; rintro r w4 ⟨rfl, hu⟩; have HU4 := As.mk hu; clear hu)
            go_ret2
            rw [HE5.out]
            exact ⟨.inl ⟨rfl, B3, rfl, Rp.row_fp (Rp.row_pure HR3.out HU4.out) (fun q hq => Nat.le_trans HU2.out.size hq)⟩, HU3.out.trans HU4.out (fun _ _ h => h)⟩
          · by_cases e3 : e = 3
            · subst e3
              have HE5 := As.mk (show stepErr l s = 4 from HE4.out)
              go_enter Tryz.func59, Tryz.ntmps59
              go_wp2_with (first | (go_at_call 120; refine (HDO.out w2 HU2.out).mono ?_; rintro r w3 ⟨⟨B3, rfl, hrow⟩, hu⟩; have HR3 := As.mk hrow; have HU3a := As.mk hu; have HU3 := As.mk (HU2.out.trans hu (fun _ _ h => h)); clear hu hrow; apply As.out) | (go_at_call 119; refine (HC.out w1 HU1.out).mono ?_; rintro r w2 ⟨rfl, hu⟩; have hb2 := (hu.block _ (lt_of_block HB1.out) (fun h => h)).trans HB1.out; obtain ⟨r0, r1, r2, r3, r4, r5, r6, r7⟩ := cells8 hb2; have HU2 := As.mk (HU1.out.trans hu (fun _ _ h => h)); clear hu hb2) | (go_at_call 69; refine (HF.out _ (Upd.alloc1 _ _ _)).mono ?_; rintro r w1 ⟨rfl, hu⟩; have hb1 := (hu.block w.heap.size (by simp) (fun h => h)).trans (heap_alloc_new w _); obtain ⟨q0, q1, q2, q3, q4, q5, q6, q7⟩ := cells8 hb1; have HB1 := As.mk hb1; have HU1 := As.mk (Upd.trans (Upd.alloc1 (fun _ => False) _ _) hu (fun _ _ h => h)); clear hu hb1))
              refine ⟨?_⟩
              go_wp2_with (go_at_call 69; refine (HFO3.out w3 _ _ HR3.out).mono ?_; rintro r w4 ⟨rfl, hu⟩; have HU4 := As.mk hu; clear hu)
              go_ret2
              rw [HE5.out]
              exact ⟨.inr ⟨by decide, rfl⟩, HU3.out.trans HU4.out (fun _ _ h => h)⟩
            · have HE5 := As.mk (show stepErr l s = e from HE4.out.trans (if_neg e3))
              have HE0 := As.mk e0
              have f0 : (e == 0) = false := by simpa using e0
              have f3 : (e == 3) = false := by simpa using e3
              clear e0 e3
              go_enter Tryz.func59, Tryz.ntmps59
              go_wp2_with (first | (go_at_call 120; refine (HDO.out w2 HU2.out).mono ?_; rintro r w3 ⟨⟨B3, rfl, hrow⟩, hu⟩; have HR3 := As.mk hrow; have HU3a := As.mk hu; have HU3 := As.mk (HU2.out.trans hu (fun _ _ h => h)); clear hu hrow; apply As.out) | (go_at_call 119; refine (HC.out w1 HU1.out).mono ?_; rintro r w2 ⟨rfl, hu⟩; have hb2 := (hu.block _ (lt_of_block HB1.out) (fun h => h)).trans HB1.out; obtain ⟨r0, r1, r2, r3, r4, r5, r6, r7⟩ := cells8 hb2; have HU2 := As.mk (HU1.out.trans hu (fun _ _ h => h)); clear hu hb2) | (go_at_call 69; refine (HF.out _ (Upd.alloc1 _ _ _)).mono ?_; rintro r w1 ⟨rfl, hu⟩; have hb1 := (hu.block w.heap.size (by simp) (fun h => h)).trans (heap_alloc_new w _); obtain ⟨q0, q1, q2, q3, q4, q5, q6, q7⟩ := cells8 hb1; have HB1 := As.mk hb1; have HU1 := As.mk (Upd.trans (Upd.alloc1 (fun _ => False) _ _) hu (fun _ _ h => h)); clear hu hb1))
              refine ⟨?_⟩
              go_wp2_with (go_at_call 69; refine (HFO3.out w3 _ _ HR3.out).mono ?_; rintro r w4 ⟨rfl, hu⟩; have HU4 := As.mk hu; clear hu)
              go_ret2
              rw [HE5.out]
              exact ⟨.inr ⟨HE0.out, rfl⟩, HU3.out.trans HU4.out (fun _ _ h => h)⟩
        exact fin _ rfl
    · have HE3 := As.mk (show stepErr l s = stepCheck s by rw [HE2.out, if_pos h1])
      have HE0 := As.mk h1
      have f0 : (stepCheck s != 0) = true := by simpa using h1
      generalize stepCheck s = e at *
      clear HE2 HD2 h1 HFO
      go_enter Tryz.func59, Tryz.ntmps59
      go_wp2_with (first | (go_at_call 120; refine (HDO.out w2 HU2.out).mono ?_; rintro r w3 ⟨⟨B3, rfl, hrow⟩, hu⟩; have HR3 := As.mk hrow; have HU3a := As.mk hu; have HU3 := As.mk (HU2.out.trans hu (fun _ _ h => h)); clear hu hrow; apply As.out) | (go_at_call 119; refine (HC.out w1 HU1.out).mono ?_; rintro r w2 ⟨rfl, hu⟩; have hb2 := (hu.block _ (lt_of_block HB1.out) (fun h => h)).trans HB1.out; obtain ⟨r0, r1, r2, r3, r4, r5, r6, r7⟩ := cells8 hb2; have HU2 := As.mk (HU1.out.trans hu (fun _ _ h => h)); clear hu hb2) | (go_at_call 69; refine (HF.out _ (Upd.alloc1 _ _ _)).mono ?_; rintro r w1 ⟨rfl, hu⟩; have hb1 := (hu.block w.heap.size (by simp) (fun h => h)).trans (heap_alloc_new w _); obtain ⟨q0, q1, q2, q3, q4, q5, q6, q7⟩ := cells8 hb1; have HB1 := As.mk hb1; have HU1 := As.mk (Upd.trans (Upd.alloc1 (fun _ => False) _ _) hu (fun _ _ h => h)); clear hu hb1))
      go_ret2
      rw [HE3.out]
      exact ⟨.inr ⟨HE0.out, rfl⟩, HU2.out⟩
  · have HE3 := As.mk (show stepErr l s = (flatCheck l).2 by rw [HE.out, if_pos h0])
    have HE0 := As.mk h0
    have f0 : ((flatCheck l).2 != 0) = true := by simpa using h0
    generalize (flatCheck l).2 = e at *
    clear HE HD h0 HFO
    go_enter Tryz.func59, Tryz.ntmps59
    go_wp2_with (go_at_call 69; refine (HF.out _ (Upd.alloc1 _ _ _)).mono ?_; rintro r w1 ⟨rfl, hu⟩; have HU1 := As.mk (Upd.trans (Upd.alloc1 (fun _ => False) _ _) hu (fun _ _ h => h)); clear hu)
    go_ret2
    rw [HE3.out]
    exact ⟨.inr ⟨HE0.out, rfl⟩, HU1.out⟩
end Go.Proofs.YtfapglhdakhbeaaGreatDoor
namespace Go.Proofs.YtfapglhdakhbeaaGreatDoor
open Go.RowKit
set_option linter.unusedVariables false
set_option linter.unusedSimpArgs false

theorem fc_codes : ∀ (l : List Tok) (i n : Nat), (fcGo i n l).2 = 0 ∨ (fcGo i n l).2 = 3 ∨ (fcGo i n l).2 = 4 ∨ (fcGo i n l).2 = 8 := by
  intro l
  induction l with
  | nil =>
    intro i n
    unfold fcGo
    simp only
    split <;> simp
  | cons x r ih =>
    intro i n
    unfold fcGo
    split
    · simp
    · split
      · split
        · simp
        · exact ih _ _
      · split
        · exact ih _ _
        · exact ih _ _
theorem flat_codes (l : List Tok) : (flatCheck l).2 = 0 ∨ (1 ≤ (flatCheck l).2 ∧ (flatCheck l).2 ≤ 12) := by
  unfold flatCheck
  split
  · simp
  · rcases fc_codes l 0 0 with h | h | h | h <;> rw [h] <;> simp
theorem ck_codes (rs : List (Spec × Ex)) (gs : List Grp) : ∀ (l : List Tok) (k : Nat) (top : Lev) (below : List Lev), (ckGo rs gs k top below l).2 = 0 ∨ (ckGo rs gs k top below l).2 = 9 := by
  intro l
  induction l with
  | nil =>
    intro k top below
    rw [ck_end]
    simp only
    split <;> simp
  | cons x r ih =>
    intro k top below
    by_cases h2 : x.k = 2
    · cases ha : regAccepts top.1.2 gs top.2
      · rw [ck_noclose h2 ha]; simp
      · cases below with
        | nil =>
          rw [ckGo.eq_def]
          simp only [if_pos h2, ha, if_true]
          simp
        | cons p q => rw [ck_close h2 ha]; exact ih _ _ _
    · cases hs : stepOk rs gs top x
      · rw [ck_bad h2 hs]; simp
      · by_cases h1 : x.k = 1
        · rw [ck_open h1 hs]; exact ih _ _ _
        · rw [ck_leaf h2 h1 hs]; exact ih _ _ _
theorem house_codes (l : List Tok) : (houseCheck l).2 = 0 ∨ (1 ≤ (houseCheck l).2 ∧ (houseCheck l).2 ≤ 12) := by
  unfold houseCheck schemaCheck
  split
  · rcases ck_codes houseRules houseGroups l 0 (ruleOf houseRules 0, []) [] with h | h <;> rw [h] <;> simp
  · exact flat_codes l
theorem step_codes (l : List Tok) (s : StepD) : stepErr l s = 0 ∨ (1 ≤ stepErr l s ∧ stepErr l s ≤ 12) := by
  unfold stepErr
  split
  · have := flat_codes l
    omega
  · split
    · unfold stepCheck
      split
      · simp
      · split <;> simp
    · split
      · simp
      · split
        · simp
        · exact flat_codes _
theorem remap_codes (l : List Tok) (s : StepD) : remapErr l s = 0 ∨ (1 ≤ remapErr l s ∧ remapErr l s ≤ 12) := by
  unfold remapErr
  split
  · have := step_codes l s
    omega
  · exact house_codes _
theorem DocR.zero {w : World} {x : List Tok} {r : Ending} {w' : World} (h : DocR w x 0 r w') : (∃ B, r = .returned (.tuple #[.slice (some B) x.length x.length, .int .i64 0]) ∧ tokR.row w' (fun k => w.heap.size ≤ k) (some B) x) ∧ Pure w w' := by
  obtain ⟨⟨_, B, h1, h2⟩ | ⟨h, _⟩, hu⟩ := h
  · exact ⟨⟨B, h1, h2⟩, hu⟩
  · exact absurd rfl h
/-- What remap.do answers. -/
def RdoR (w : World) (x : List Tok) (e : Int) (r : Ending) (w' : World) : Prop :=
  ((e = 0 ∧ ∃ B, r = .returned (.tuple #[.slice (some B) x.length x.length, .nilIface]) ∧ tokR.row w' (fun k => w.heap.size ≤ k) (some B) x) ∨ (e ≠ 0 ∧ r = .returned (.tuple #[.slice none 0 0, .iface 246 (.agg #[.int .i64 e])]))) ∧ Pure w w'
theorem RdoR.zero {w : World} {x : List Tok} {r : Ending} {w' : World} (h : RdoR w x 0 r w') : (∃ B, r = .returned (.tuple #[.slice (some B) x.length x.length, .nilIface]) ∧ tokR.row w' (fun k => w.heap.size ≤ k) (some B) x) ∧ Pure w w' := by
  obtain ⟨⟨_, B, h1, h2⟩ | ⟨h, _⟩, hu⟩ := h
  · exact ⟨⟨B, h1, h2⟩, hu⟩
  · exact absurd rfl h
set_option maxRecDepth 100000 in
set_option maxHeartbeats 4000000 in
theorem rdo_calls {w : World} {cb : Nat} {A B : Option Addr} {c cs : Nat} {l : List Tok} {s : StepD} (h : SchR w cb houseRules houseGroups) (ha : ∀ W, Pure w W → Calls Tryz.prog 59 #[.slice A l.length c, s.val B cs] W (DocR W (stepDo l s) (stepErr l s))) :
    Calls Tryz.prog 150 #[.pointer (some ⟨cb, 0, none⟩), .slice A l.length c, s.val B cs] w (RdoR w (stepDo l s) (remapErr l s)) := by
  have HA := As.mk ha
  have HS := As.mk h
  have HX := As.mk (fun (W : World) (hu : Pure w W) (Bo : Option Addr) (G2 : Nat → Prop) (h1 : stepErr l s = 0) (hrow : tokR.row W G2 Bo (stepDo l s)) => house_check (c := (stepDo l s).length) (h.pure hu) hrow (by have := flat_len (step_err_zero.1 h1).2.2.2; omega))
  clear h ha
  unfold StepD.val at *
  by_cases h0 : stepErr l s = 0
  · have HE := As.mk (show remapErr l s = (houseCheck (stepDo l s)).2 by unfold remapErr; rw [if_neg (by omega)])
    have HX2 := As.mk (fun W hu Bo G2 => HX.out W hu Bo G2 h0)
    rw [h0] at HA
    clear h0 HX
    generalize stepDo l s = x at *
    by_cases h1 : (houseCheck x).2 = 0
    · have HE2 := As.mk (HE.out.trans h1)
      rw [h1] at HX2
      generalize (houseCheck x).1 = hx1 at *
      clear h1 HE
      go_enter Tryz.func150, Tryz.ntmps150
      go_wp2_with (go_at_call 59; refine (HA.out _ (Upd.alloc1 _ _ _)).mono ?_; rintro r w1 hd; obtain ⟨⟨B1, rfl, hrow⟩, hu⟩ := DocR.zero hd; (have HR1 := As.mk hrow; have HU1 := As.mk (Upd.trans (Upd.alloc1 (fun _ => False) _ _) hu (fun _ _ h => h)); have HZ1 := As.mk hu.size; clear hd hu hrow; apply As.out))
      refine ⟨?_⟩
      go_wp2_with (go_at_call 17; refine (HX2.out w1 HU1.out _ _ HR1.out).mono ?_; rintro r w2 ⟨rfl, hu⟩; have HU2 := As.mk hu; clear hu)
      go_ret2
      rw [HE2.out]
      exact ⟨.inl ⟨rfl, B1, rfl, Rp.row_fp (Rp.row_pure HR1.out HU2.out) (fun q hq => by have := HZ1.out; simp at hq this; omega)⟩, HU1.out.trans HU2.out (fun _ _ h => h)⟩
    · have HN := As.mk h1
      have f1 : ((houseCheck x).2 == 0) = false := by simpa using h1
      have f2 : ((houseCheck x).2 != 0) = true := by simpa using h1
      generalize (houseCheck x).2 = hx2 at *
      generalize (houseCheck x).1 = hx1 at *
      clear h1
      go_enter Tryz.func150, Tryz.ntmps150
      go_wp2_with (go_at_call 59; refine (HA.out _ (Upd.alloc1 _ _ _)).mono ?_; rintro r w1 hd; obtain ⟨⟨B1, rfl, hrow⟩, hu⟩ := DocR.zero hd; (have HR1 := As.mk hrow; have HU1 := As.mk (Upd.trans (Upd.alloc1 (fun _ => False) _ _) hu (fun _ _ h => h)); clear hd hu hrow; apply As.out))
      refine ⟨?_⟩
      go_wp2_with (go_at_call 17; refine (HX2.out w1 HU1.out _ _ HR1.out).mono ?_; rintro r w2 ⟨rfl, hu⟩; have HU2 := As.mk hu; clear hu)
      go_ret2
      rw [HE.out]
      exact ⟨.inr ⟨HN.out, rfl⟩, HU1.out.trans HU2.out (fun _ _ h => h)⟩
  · have HE := As.mk (show remapErr l s = stepErr l s by unfold remapErr; rw [if_pos h0])
    have HN := As.mk h0
    have f1 : (stepErr l s == 0) = false := by simpa using h0
    have f2 : (stepErr l s != 0) = true := by simpa using h0
    generalize stepErr l s = e at *
    clear h0 HX
    go_enter Tryz.func150, Tryz.ntmps150
    go_wp2_with (go_at_call 59; refine (HA.out _ (Upd.alloc1 _ _ _)).mono ?_; rintro r w1 ⟨⟨h0, _⟩ | ⟨_, rfl⟩, hu⟩; exact absurd h0 HN.out; (have HU1 := As.mk (Upd.trans (Upd.alloc1 (fun _ => False) _ _) hu (fun _ _ h => h)); clear hu; apply As.out))
    refine ⟨?_⟩
    go_wp2
    go_ret2
    rw [HE.out]
    exact ⟨.inr ⟨HN.out, rfl⟩, HU1.out⟩
set_option maxRecDepth 100000 in
set_option maxHeartbeats 4000000 in
theorem Do_calls {w : World} {cb : Nat} {A B : Option Addr} {c cs : Nat} {l : List Tok} {s : StepD} (h : SchR w cb houseRules houseGroups) (ha : ∀ W, Pure w W → Calls Tryz.prog 59 #[.slice A l.length c, s.val B cs] W (DocR W (stepDo l s) (stepErr l s))) :
    Calls Tryz.prog 101 #[.pointer (some ⟨cb, 0, none⟩), .slice A l.length c, s.val B cs] w (DocR w (stepDo l s) (remapErr l s)) := by
  have HD := As.mk (fun W (hu : Pure w W) => rdo_calls (h.pure hu) (fun V hv => ha V (hu.trans hv (fun _ _ h => h))))
  have HC := remap_codes l s
  clear h ha
  unfold StepD.val at *
  generalize remapErr l s = e at *
  generalize stepDo l s = x at *
  have n1 := fun (w : World) (v : Value) => run_eql_iface_nil_left (P := Tryz.prog) w 246 v Tryz.underlying167
  by_cases h0 : e = 0
  · subst h0
    clear HC
    go_enter Tryz.func101, Tryz.ntmps101
    go_wp2_with (go_at_call 150; refine (HD.out _ (Upd.alloc1 _ _ _)).mono ?_; rintro r w1 hd; obtain ⟨⟨B1, rfl, hrow⟩, hu⟩ := RdoR.zero hd; (have HR1 := As.mk hrow; have HU1 := As.mk (Upd.trans (Upd.alloc1 (fun _ => False) _ _) hu (fun _ _ h => h)); clear hd hu hrow; apply As.out))
    refine ⟨?_⟩
    go_wp2
    go_ret2
    exact ⟨.inl ⟨rfl, B1, rfl, Rp.row_fp HR1.out (fun q hq => by simp at hq; omega)⟩, HU1.out⟩
  · have HN := As.mk h0
    have HNC := As.mk (fun W => number_calls (why := e) (by omega) W)
    clear h0 HC
    go_enter Tryz.func101, Tryz.ntmps101
    go_wp2_with (go_at_call 150; refine (HD.out _ (Upd.alloc1 _ _ _)).mono ?_; rintro r w1 ⟨⟨h0, _⟩ | ⟨_, rfl⟩, hu⟩; exact absurd h0 HN.out; (have HU1 := As.mk (Upd.trans (Upd.alloc1 (fun _ => False) _ _) hu (fun _ _ h => h)); clear hu; apply As.out))
    refine ⟨?_⟩
    go_wp2_with (go_at_call 151; refine (HNC.out _).mono ?_; rintro r w2 ⟨rfl, hu⟩; have HU2 := As.mk hu; clear hu)
    go_ret2
    exact ⟨.inr ⟨HN.out, rfl⟩, HU1.out.trans HU2.out (fun _ _ h => h)⟩
end Go.Proofs.YtfapglhdakhbeaaGreatDoor
