/- emenderlaw06.RegSeqs. -/
import Derived.Test.YtchgeaklaeoplaaRegOpt
import Derived.Test.YtchgeaklaeoplaaSeqAlt
namespace Go.Proofs.Ytchgeaklaeoplaa
open Go.RowKit
set_option linter.unusedVariables false
set_option linter.unusedSimpArgs false

/-- The trees of the law, where they lie. -/
structure SeqB (W : World) (ka kb : Int) (na nb : ByteArray) (la lb : List Ex) (Aa Ab : Option Addr) (ca cb n : Nat) : Prop where
  a0 : W.heap[n]? = some (.cells #[.int .i64 ka, .string na, .slice Aa la.length ca] 24 (0, 0))
  b0 : W.heap[n + 1]? = some (.cells #[.int .i64 kb, .string nb, .slice Ab lb.length cb] 24 (0, 0))
  a1 : W.heap[n + 1 + 1]? = some (.cells #[.int .i64 ka, .string na, .slice Aa la.length ca] 24 (0, 0))
  b1 : W.heap[n + 1 + 1 + 1]? = some (.cells #[.int .i64 kb, .string nb, .slice Ab lb.length cb] 24 (0, 0))
  l : W.heap[n + 1 + 1 + 1 + 1]? = some (.cells #[.int .i64 6, .string noName, .slice (some ⟨n + 1 + 1, 0, none⟩) 1 1, .int .i64 6, .string noName, .slice (some ⟨n + 1 + 1 + 1, 0, none⟩) 1 1] 24 (0, 0))
  s : W.heap[n + 1 + 1 + 1 + 1 + 1]? = some (.cells #[.int .i64 2, .string noName, .slice (some ⟨n + 1 + 1 + 1 + 1, 0, none⟩) 2 2] 24 (0, 0))
  t : W.heap[n + 1 + 1 + 1 + 1 + 1 + 1]? = some (.cells #[.int .i64 3, .string noName, .slice (some ⟨n + 1 + 1 + 1 + 1, 0, none⟩) 2 2] 24 (0, 0))
theorem SeqB.pure {W W1 : World} {ka kb : Int} {na nb : ByteArray} {la lb : List Ex} {Aa Ab : Option Addr} {ca cb n : Nat} (h : SeqB W ka kb na nb la lb Aa Ab ca cb n) (hu : Pure W W1) : SeqB W1 ka kb na nb la lb Aa Ab ca cb n := by
  have hk : ∀ {b : Nat} {o : Obj}, W.heap[b]? = some o → W1.heap[b]? = some o := fun hb => (hu.block _ (Array.getElem?_eq_some_iff.1 hb).1 (fun h => h)).trans hb
  exact ⟨hk h.a0, hk h.b0, hk h.a1, hk h.b1, hk h.l, hk h.s, hk h.t⟩
theorem cells6 {w : World} {b : Nat} {x0 x1 x2 x3 x4 x5 : Value} {t : TypeId} (h : w.heap[b]? = some (.cells #[x0, x1, x2, x3, x4, x5] t (0, 0))) :
    w.cell? ⟨b, 0, none⟩ = some x0 ∧ w.cell? ⟨b, 1, none⟩ = some x1 ∧ w.cell? ⟨b, 2, none⟩ = some x2 ∧ w.cell? ⟨b, 3, none⟩ = some x3 ∧ w.cell? ⟨b, 4, none⟩ = some x4 ∧ w.cell? ⟨b, 5, none⟩ = some x5 := by
  refine ⟨?_, ?_, ?_, ?_, ?_, ?_⟩
  all_goals (unfold World.cell?; simp only [h]; rfl)
/-- A tree with two parts, each with one, laid in blocks of their own. -/
theorem MadeC.two {W : World} {ka kb : Int} {na nb : ByteArray} {la lb : List Ex} {Aa Ab Bg : Option Addr} {ca cb n : Nat} {g : List Grp} (k : Int) (hB : SeqB W ka kb na nb la lb Aa Ab ca cb n)
    (ha : MadeC W Aa Bg (.mk ka na la) g) (hb : MadeC W Ab Bg (.mk kb nb lb) g) (hwa : (Ex.mk ka na la).wt ≤ 1048576) (hwb : (Ex.mk kb nb lb).wt ≤ 1048576) (hca : la.length ≤ ca) (hcb : lb.length ≤ cb) :
    MadeC W (some ⟨n + 1 + 1 + 1 + 1, 0, none⟩) Bg (.mk k noName [.mk 6 noName [.mk ka na la], .mk 6 noName [.mk kb nb lb]]) g := by
  have h1 := ha.one 6 hwa hca hB.a1
  have h2 := hb.one 6 hwb hcb hB.b1
  refine ⟨?_, ha.hg, ?_, ha.gl, ha.gt⟩
  · have r1 : ExRep W (fun k => k < W.heap.size) (.mk 6 noName [.mk ka na la]) [.int .i64 6, .string noName, .slice (some ⟨n + 1 + 1, 0, none⟩) 1 1] := ExRep.of_parts (Nat.le_refl _) h1.hr
    have r2 : ExRep W (fun k => k < W.heap.size) (.mk 6 noName [.mk kb nb lb]) [.int .i64 6, .string noName, .slice (some ⟨n + 1 + 1 + 1, 0, none⟩) 1 1] := ExRep.of_parts (Nat.le_refl _) h2.hr
    exact Rp.row_of_block hB.l (Array.getElem?_eq_some_iff.1 hB.l).1 (Reps.append (Reps.single (R := exR.rep _ _) (size := exR.sz) r1 rfl) (Reps.single (R := exR.rep _ _) (size := exR.sz) r2 rfl))
  · have e0 : noName.size = 0 := rfl
    simp only [Ex.wt, Ex.wts, e0] at hwa hwb ⊢
    omega

theorem check_two {k : Int} {a b : Ex} {g : List Grp} (hk : k = 2 ∨ k = 3) (h : regCheck (.mk k noName [.mk 6 noName [a], .mk 6 noName [b]]) g = 0) : regCheck (.mk 6 noName [a]) g = 0 ∧ regCheck (.mk 6 noName [b]) g = 0 := by
  rw [check_iff] at h
  obtain ⟨⟨h1, h2, h3⟩, h4, h5⟩ := h
  rw [Ex.okB, if_neg (by omega)] at h3
  rw [Ex.namedB, if_neg (by omega)] at h5
  simp only [Ex.namedsB, Bool.and_true, Bool.and_eq_true] at h5
  split at h3
  · cases h3
  · simp only [Ex.oksB, Bool.and_true, Bool.and_eq_true] at h3
    obtain ⟨⟨⟨⟨h6, h7⟩, _⟩, _⟩, _⟩ := h3
    rw [okB_one (by omega)] at h6 h7
    simp only [Ex.cnt, Ex.cnts, Ex.dep, Ex.deps] at h1 h2
    exact ⟨(check_iff _ _).2 ⟨⟨by simp only [Ex.cnt, Ex.cnts]; omega, by simp only [Ex.dep, Ex.deps]; omega, by rw [okB_one (by omega)]; exact h6⟩, h4, h5.1⟩,
      (check_iff _ _).2 ⟨⟨by simp only [Ex.cnt, Ex.cnts]; omega, by simp only [Ex.dep, Ex.deps]; omega, by rw [okB_one (by omega)]; exact h7⟩, h4, h5.2⟩⟩
theorem none_opt {g : List Grp} {e : Ex} : (mcP g (.mk 6 noName [e])).none = true := by rw [mcP_one (by omega)]; simp

set_option maxRecDepth 100000 in
set_option maxHeartbeats 4000000 in
theorem RegSeqs_walk {w : World} {Aa Ab Bg Ax Ay : Option Addr} {ca cb d cx cy : Nat} {ea eb : Ex} {g : List Grp} {x y : List Int} (hma : MadeC w Aa Bg ea g) (hmb : MadeC w Ab Bg eb g) (hca : ea.l.length ≤ ca) (hcb : eb.l.length ≤ cb) (hwa : ea.wt ≤ 1048576) (hwb : eb.wt ≤ 1048576)
    (hx : intR.row w (fun k => k < w.heap.size) Ax x) (hy : intR.row w (fun k => k < w.heap.size) Ay y) (hxl : x.length ≤ 1048576) (hyl : y.length ≤ 1048576) :
    Calls Try.prog 4 #[ea.val Aa ca, eb.val Ab cb, .slice Bg g.length d, .slice Ax x.length cx, .slice Ay y.length cy] w fun r w' => r = .returned (.bool true) ∧ Pure w w' := by
  obtain ⟨ka, na, la⟩ := ea
  obtain ⟨kb, nb, lb⟩ := eb
  have HA := As.mk hma
  have HB := As.mk hmb
  have HX := As.mk hx
  have HY := As.mk hy
  clear hma hmb hx hy
  show Calls Try.prog 4 #[.agg #[.int .i64 ka, .string na, .slice Aa la.length ca], .agg #[.int .i64 kb, .string nb, .slice Ab lb.length cb], .slice Bg g.length d, .slice Ax x.length cx, .slice Ay y.length cy] w _
  have HP7 : As (Pure w (((((((w.alloc (.cells #[.int .i64 ka, .string na, .slice Aa la.length ca] 24)).alloc (.cells #[.int .i64 kb, .string nb, .slice Ab lb.length cb] 24)).alloc (.cells #[.int .i64 ka, .string na, .slice Aa la.length ca] 24)).alloc (.cells #[.int .i64 kb, .string nb, .slice Ab lb.length cb] 24)).alloc (.cells #[.int .i64 6, .string noName, .slice (some ⟨w.heap.size + 1 + 1, 0, none⟩) 1 1, .int .i64 6, .string noName, .slice (some ⟨w.heap.size + 1 + 1 + 1, 0, none⟩) 1 1] 24)).alloc (.cells #[.int .i64 2, .string noName, .slice (some ⟨w.heap.size + 1 + 1 + 1 + 1, 0, none⟩) 2 2] 24)).alloc (.cells #[.int .i64 3, .string noName, .slice (some ⟨w.heap.size + 1 + 1 + 1 + 1, 0, none⟩) 2 2] 24))) := ⟨((((((Upd.alloc1 _ _ _).alloc _).alloc _).alloc _).alloc _).alloc _).alloc _⟩
  have HB7 : As (SeqB (((((((w.alloc (.cells #[.int .i64 ka, .string na, .slice Aa la.length ca] 24)).alloc (.cells #[.int .i64 kb, .string nb, .slice Ab lb.length cb] 24)).alloc (.cells #[.int .i64 ka, .string na, .slice Aa la.length ca] 24)).alloc (.cells #[.int .i64 kb, .string nb, .slice Ab lb.length cb] 24)).alloc (.cells #[.int .i64 6, .string noName, .slice (some ⟨w.heap.size + 1 + 1, 0, none⟩) 1 1, .int .i64 6, .string noName, .slice (some ⟨w.heap.size + 1 + 1 + 1, 0, none⟩) 1 1] 24)).alloc (.cells #[.int .i64 2, .string noName, .slice (some ⟨w.heap.size + 1 + 1 + 1 + 1, 0, none⟩) 2 2] 24)).alloc (.cells #[.int .i64 3, .string noName, .slice (some ⟨w.heap.size + 1 + 1 + 1 + 1, 0, none⟩) 2 2] 24)) ka kb na nb la lb Aa Ab ca cb w.heap.size) := ⟨by
    refine ⟨?_, ?_, ?_, ?_, ?_, ?_, ?_⟩
    all_goals (simp only [heap_at_alloc]; simp; try (repeat rw [if_neg (by omega)]))⟩
  generalize hWb : (((((((w.alloc (.cells #[.int .i64 ka, .string na, .slice Aa la.length ca] 24)).alloc (.cells #[.int .i64 kb, .string nb, .slice Ab lb.length cb] 24)).alloc (.cells #[.int .i64 ka, .string na, .slice Aa la.length ca] 24)).alloc (.cells #[.int .i64 kb, .string nb, .slice Ab lb.length cb] 24)).alloc (.cells #[.int .i64 6, .string noName, .slice (some ⟨w.heap.size + 1 + 1, 0, none⟩) 1 1, .int .i64 6, .string noName, .slice (some ⟨w.heap.size + 1 + 1 + 1, 0, none⟩) 1 1] 24)).alloc (.cells #[.int .i64 2, .string noName, .slice (some ⟨w.heap.size + 1 + 1 + 1 + 1, 0, none⟩) 2 2] 24)).alloc (.cells #[.int .i64 3, .string noName, .slice (some ⟨w.heap.size + 1 + 1 + 1 + 1, 0, none⟩) 2 2] 24)) = Wb at *
  have hma := HA.out.pure HP7.out
  have hmb := HB.out.pure HP7.out
  have hmS := MadeC.two 2 HB7.out hma hmb hwa hwb hca hcb
  have hmT := MadeC.two 3 HB7.out hma hmb hwa hwb hca hcb
  have HCS := As.mk (regCheck_calls (c := 2) (d := d) hmS.hr hmS.hg hmS.wt hmS.gl hmS.gt)
  have HCT := As.mk (fun (W : World) (hu : Pure Wb W) => regCheck_calls (c := 2) (d := d) (hmT.pure hu).hr (hmT.pure hu).hg hmT.wt hmT.gl hmT.gt)
  have HO_ := As.mk (fun (W : World) (hu : Pure Wb W) (word : List Int) (F : Nat → Prop) (Aw : Option Addr) (cw : Nat) (hw' : intR.row W F Aw word) (hl : word.length ≤ 1048576 * 4) => accepts_calls (c := 1) (d := d) (cw := cw) ((hma.one 6 hwa hca HB7.out.a1).pure hu) hw' hl)
  have HQ_ := As.mk (fun (W : World) (hu : Pure Wb W) (word : List Int) (F : Nat → Prop) (Aw : Option Addr) (cw : Nat) (hw' : intR.row W F Aw word) (hl : word.length ≤ 1048576 * 4) => accepts_calls (c := 1) (d := d) (cw := cw) ((hmb.one 6 hwb hcb HB7.out.b1).pure hu) hw' hl)
  have HS_ := As.mk (fun (W : World) (hu : Pure Wb W) (word : List Int) (F : Nat → Prop) (Aw : Option Addr) (cw : Nat) (hw' : intR.row W F Aw word) (hl : word.length ≤ 1048576 * 4) => accepts_calls (c := 2) (d := d) (cw := cw) (hmS.pure hu) hw' hl)
  have HT_ := As.mk (fun (W : World) (hu : Pure Wb W) (word : List Int) (F : Nat → Prop) (Aw : Option Addr) (cw : Nat) (hw' : intR.row W F Aw word) (hl : word.length ≤ 1048576 * 4) => accepts_calls (c := 2) (d := d) (cw := cw) (hmT.pure hu) hw' hl)
  clear hma hmb hmS hmT
  by_cases h50 : x.length > 50
  · have e1 : decide (50 < (x.length : Int)) = true := by simp; omega
    have h51 : (50 : Int) < (x.length : Int) := by omega
    go_enter Try.func4, Try.ntmps4
    go_wp2_with ((go_at_call 9; refine awake_calls.mono ?_; rintro e w3 ⟨rfl, hu3⟩))
    go_ret
    exact ⟨rfl, HP7.out.trans hu3 (fun _ _ h => h)⟩
  · have e1 : decide (50 < (x.length : Int)) = false := by simp; omega
    have h51 : ¬ (50 : Int) < (x.length : Int) := by omega
    by_cases h60 : y.length > 50
    · have e2 : decide (50 < (y.length : Int)) = true := by simp; omega
      have h61 : (50 : Int) < (y.length : Int) := by omega
      go_enter Try.func4, Try.ntmps4
      go_wp2_with ((go_at_call 9; refine awake_calls.mono ?_; rintro e w3 ⟨rfl, hu3⟩))
      go_ret
      exact ⟨rfl, HP7.out.trans hu3 (fun _ _ h => h)⟩
    · have e2 : decide (50 < (y.length : Int)) = false := by simp; omega
      have h61 : ¬ (50 : Int) < (y.length : Int) := by omega
      by_cases hcs : regCheck (.mk 2 noName [(.mk 6 noName [.mk ka na la]), (.mk 6 noName [.mk kb nb lb])]) g = 0
      · by_cases hct : regCheck (.mk 3 noName [(.mk 6 noName [.mk ka na la]), (.mk 6 noName [.mk kb nb lb])]) g = 0
        · obtain ⟨hoa, hob⟩ := check_two (.inl rfl) hcs
          have hka := mc_ok hoa
          have hkb := mc_ok hob
          have P2 : As (∀ v, regAccepts (.mk 3 noName [(.mk 6 noName [.mk ka na la]), (.mk 6 noName [.mk kb nb lb])]) g v = (regAccepts (.mk 6 noName [.mk ka na la]) g v || regAccepts (.mk 6 noName [.mk kb nb lb]) g v)) := ⟨fun v => by
            rw [Bool.eq_iff_iff, Bool.or_eq_true, accepts_iff, accepts_iff, accepts_iff, acc_alt hka hkb none_opt none_opt]
            exact ⟨fun h => h.2.imp (fun h1 => ⟨hoa, h1⟩) (fun h1 => ⟨hob, h1⟩), fun h => ⟨hct, h.imp (fun h1 => h1.2) (fun h1 => h1.2)⟩⟩⟩
          have P5 : As (regAccepts (.mk 6 noName [.mk ka na la]) g x = true → regAccepts (.mk 6 noName [.mk kb nb lb]) g y = true → regAccepts (.mk 2 noName [(.mk 6 noName [.mk ka na la]), (.mk 6 noName [.mk kb nb lb])]) g (x ++ y) = true) := ⟨fun h h' => (accepts_iff _).2 ⟨hcs, acc_seq hka hkb none_opt none_opt ((accepts_iff _).1 h).2 ((accepts_iff _).1 h').2⟩⟩
          rw [hcs] at HCS
          rw [hct] at HCT
          clear hoa hob hka hkb hcs hct
          obtain ⟨⟨k0, k1, k2⟩, _⟩ := cells3 HB7.out.s
          go_enter Try.func4, Try.ntmps4
          go_wp2_with (go_at_call 8; refine HCS.out.mono ?_; rintro e w1 ⟨rfl, hu⟩; have HU1 := As.mk hu; clear hu; apply As.out)
          refine ⟨?_⟩
          obtain ⟨⟨g0, g1, g2⟩, _⟩ := cells3 (HB7.out.pure HU1.out).t
          go_wp2_with (go_at_call 8; refine (HCT.out _ HU1.out).mono ?_; rintro e w2 ⟨rfl, hu⟩; have HU2 := As.mk (Upd.trans HU1.out hu (fun _ _ h => h)); clear hu; apply As.out)
          refine ⟨?_⟩
          clear g0 g1 g2
          cases hp : regAccepts (.mk 6 noName [.mk ka na la]) g x
          · cases hq : regAccepts (.mk 6 noName [.mk kb nb lb]) g y
            all_goals
              have HPP := As.mk hp; have HQQ := As.mk hq; clear hp hq
              obtain ⟨g0, g1, g2, g3, g4, g5⟩ := cells6 (HB7.out.pure HU2.out).l
              go_wp2_with (go_at_call 10; refine (HO_.out _ HU2.out x _ Ax cx (Rp.row_pure HX.out (HP7.out.trans HU2.out (fun _ _ h => h))) (by omega)).mono ?_; rintro e z1 ⟨rfl, hu⟩; rw [HPP.out]; have HZ1 := As.mk (Upd.trans HU2.out hu (fun _ _ h => h)); clear hu; apply As.out)
              refine ⟨?_⟩
              clear g0 g1 g2 g3 g4 g5
              obtain ⟨g0, g1, g2, g3, g4, g5⟩ := cells6 (HB7.out.pure HZ1.out).l
              go_wp2_with (go_at_call 10; refine (HQ_.out _ HZ1.out y _ Ay cy (Rp.row_pure HY.out (HP7.out.trans HZ1.out (fun _ _ h => h))) (by omega)).mono ?_; rintro e z2 ⟨rfl, hu⟩; rw [HQQ.out]; have HZ2 := As.mk (Upd.trans HZ1.out hu (fun _ _ h => h)); clear hu; apply As.out)
              refine ⟨?_⟩
              clear g0 g1 g2 g3 g4 g5
              have hzX := HZ2.out.size
              go_wp2_with (at_builtin; refine Rp.append_row intR (c := cx) (Rp.own_empty (F := fun _ => True) intR (heap_alloc_new z2 _) trivial) (Rp.row'_of (Rp.row_pure HX.out (HP7.out.trans (HZ2.out.alloc _) (fun _ _ h => h))) (fun _ _ h => h)) (Fz := fun _ => False) (fun _ h => h.elim) rfl _ _ 26 (.int .i64 0) 8 rfl Try.underlying26 int_info rfl (by decide) (by decide) rfl rfl (by simp; omega) ?_; intro v1 w7 ho1 hu1 hat1; have HO1 := As.mk (int_own_fp ho1); have HU7 := As.mk (Upd.trans (HZ2.out.alloc _) hu1 (fun q hq h => by simp [Value.ownBlock] at h; omega)); have HAT := As.mk hat1; clear ho1 hu1 hat1; apply As.out)
              refine ⟨?_⟩
              have hv1 : ∀ q, v1.ownBlock = some q → Wb.heap.size ≤ q := by
                intro q hq
                rcases HAT.out with h | ⟨b1, h, hb1⟩
                · rw [h] at hq; simp [Value.ownBlock] at hq; omega
                · rw [h] at hq; simp at hq hb1; omega
              have HV1 := As.mk hv1; clear hv1 HAT
              go_wp2_with (at_builtin; refine Rp.append_row intR (c := cy) HO1.out (Rp.row'_of (Rp.row_pure HY.out (HP7.out.trans HU7.out (fun _ _ h => h))) (fun _ _ h => h)) (Fz := fun _ => False) (fun _ h => h.elim) rfl _ _ 26 (.int .i64 0) 8 rfl Try.underlying26 int_info rfl (by decide) (by decide) rfl rfl (by simp; omega) ?_; intro v2 w9 ho2 hu2 hat2; have HO2 := As.mk (int_own_fp ho2); have HU9 := As.mk (Upd.trans HU7.out hu2 (fun q hq h => by have := HV1.out q h; omega)); clear ho2 hu2 hat2; apply As.out)
              refine ⟨?_⟩
              obtain ⟨ab, hab⟩ : ∃ ab, ab = x ++ y := ⟨_, rfl⟩
              have ho3 := HO2.out
              rw [List.nil_append, ← hab] at ho3
              obtain ⟨A2, c2, rfl, _, hr3⟩ := Rp.own_slice ho3
              have HR9 := As.mk hr3
              have habl : ab.length ≤ 1048576 * 4 := by rw [hab, List.length_append]; omega
              have hal := P2.out x; rw [HPP.out, Bool.false_or] at hal; have HAL := As.mk hal; clear hal
              clear hab ho3 hr3
              obtain ⟨⟨g0, g1, g2⟩, _⟩ := cells3 (HB7.out.pure HU9.out).t
              go_wp2_with (go_at_call 10; refine (HT_.out _ HU9.out x _ Ax cx (Rp.row_pure HX.out (HP7.out.trans HU9.out (fun _ _ h => h))) (by omega)).mono ?_; rintro e z3 ⟨rfl, hu⟩; rw [HAL.out]; have HZ3 := As.mk (Upd.trans HU9.out hu (fun _ _ h => h)); clear hu; apply As.out)
              refine ⟨?_⟩
              clear g0 g1 g2
              cases hqx : regAccepts (.mk 6 noName [.mk kb nb lb]) g x
              all_goals
                have HQX := As.mk hqx; clear hqx
                obtain ⟨g0, g1, g2, g3, g4, g5⟩ := cells6 (HB7.out.pure HZ3.out).l
                go_wp2_with (first | (go_at_call 10; refine (HQ_.out _ HZ3.out x _ Ax cx (Rp.row_pure HX.out (HP7.out.trans HZ3.out (fun _ _ h => h))) (by omega)).mono ?_; rintro e z8 ⟨rfl, hu⟩; rw [HQX.out]; have HZ8 := As.mk (Upd.trans HZ3.out hu (fun _ _ h => h)); clear hu) | (go_at_call 9; refine awake_calls.mono ?_; rintro e z9 ⟨rfl, hu9⟩))
                go_ret
                exact ⟨rfl, (HP7.out.trans HZ8.out (fun _ _ h => h)).trans hu9 (fun _ _ h => h)⟩
          · cases hq : regAccepts (.mk 6 noName [.mk kb nb lb]) g y
            · have HPP := As.mk hp; have HQQ := As.mk hq; clear hp hq
              obtain ⟨g0, g1, g2, g3, g4, g5⟩ := cells6 (HB7.out.pure HU2.out).l
              go_wp2_with (go_at_call 10; refine (HO_.out _ HU2.out x _ Ax cx (Rp.row_pure HX.out (HP7.out.trans HU2.out (fun _ _ h => h))) (by omega)).mono ?_; rintro e z1 ⟨rfl, hu⟩; rw [HPP.out]; have HZ1 := As.mk (Upd.trans HU2.out hu (fun _ _ h => h)); clear hu; apply As.out)
              refine ⟨?_⟩
              clear g0 g1 g2 g3 g4 g5
              obtain ⟨g0, g1, g2, g3, g4, g5⟩ := cells6 (HB7.out.pure HZ1.out).l
              go_wp2_with (go_at_call 10; refine (HQ_.out _ HZ1.out y _ Ay cy (Rp.row_pure HY.out (HP7.out.trans HZ1.out (fun _ _ h => h))) (by omega)).mono ?_; rintro e z2 ⟨rfl, hu⟩; rw [HQQ.out]; have HZ2 := As.mk (Upd.trans HZ1.out hu (fun _ _ h => h)); clear hu; apply As.out)
              refine ⟨?_⟩
              clear g0 g1 g2 g3 g4 g5
              have hzX := HZ2.out.size
              go_wp2_with (at_builtin; refine Rp.append_row intR (c := cx) (Rp.own_empty (F := fun _ => True) intR (heap_alloc_new z2 _) trivial) (Rp.row'_of (Rp.row_pure HX.out (HP7.out.trans (HZ2.out.alloc _) (fun _ _ h => h))) (fun _ _ h => h)) (Fz := fun _ => False) (fun _ h => h.elim) rfl _ _ 26 (.int .i64 0) 8 rfl Try.underlying26 int_info rfl (by decide) (by decide) rfl rfl (by simp; omega) ?_; intro v1 w7 ho1 hu1 hat1; have HO1 := As.mk (int_own_fp ho1); have HU7 := As.mk (Upd.trans (HZ2.out.alloc _) hu1 (fun q hq h => by simp [Value.ownBlock] at h; omega)); have HAT := As.mk hat1; clear ho1 hu1 hat1; apply As.out)
              refine ⟨?_⟩
              have hv1 : ∀ q, v1.ownBlock = some q → Wb.heap.size ≤ q := by
                intro q hq
                rcases HAT.out with h | ⟨b1, h, hb1⟩
                · rw [h] at hq; simp [Value.ownBlock] at hq; omega
                · rw [h] at hq; simp at hq hb1; omega
              have HV1 := As.mk hv1; clear hv1 HAT
              go_wp2_with (at_builtin; refine Rp.append_row intR (c := cy) HO1.out (Rp.row'_of (Rp.row_pure HY.out (HP7.out.trans HU7.out (fun _ _ h => h))) (fun _ _ h => h)) (Fz := fun _ => False) (fun _ h => h.elim) rfl _ _ 26 (.int .i64 0) 8 rfl Try.underlying26 int_info rfl (by decide) (by decide) rfl rfl (by simp; omega) ?_; intro v2 w9 ho2 hu2 hat2; have HO2 := As.mk (int_own_fp ho2); have HU9 := As.mk (Upd.trans HU7.out hu2 (fun q hq h => by have := HV1.out q h; omega)); clear ho2 hu2 hat2; apply As.out)
              refine ⟨?_⟩
              obtain ⟨ab, hab⟩ : ∃ ab, ab = x ++ y := ⟨_, rfl⟩
              have ho3 := HO2.out
              rw [List.nil_append, ← hab] at ho3
              obtain ⟨A2, c2, rfl, _, hr3⟩ := Rp.own_slice ho3
              have HR9 := As.mk hr3
              have habl : ab.length ≤ 1048576 * 4 := by rw [hab, List.length_append]; omega
              have hal := P2.out x; rw [HPP.out, Bool.true_or] at hal; have HAL := As.mk hal; clear hal
              clear hab ho3 hr3
              obtain ⟨⟨g0, g1, g2⟩, _⟩ := cells3 (HB7.out.pure HU9.out).t
              go_wp2_with (go_at_call 10; refine (HT_.out _ HU9.out x _ Ax cx (Rp.row_pure HX.out (HP7.out.trans HU9.out (fun _ _ h => h))) (by omega)).mono ?_; rintro e z3 ⟨rfl, hu⟩; rw [HAL.out]; have HZ3 := As.mk (Upd.trans HU9.out hu (fun _ _ h => h)); clear hu; apply As.out)
              refine ⟨?_⟩
              clear g0 g1 g2
              go_wp2_with (go_at_call 9; refine awake_calls.mono ?_; rintro e z9 ⟨rfl, hu9⟩)
              go_ret
              exact ⟨rfl, (HP7.out.trans HZ3.out (fun _ _ h => h)).trans hu9 (fun _ _ h => h)⟩
            · have HPP := As.mk hp; have HQQ := As.mk hq; clear hp hq
              obtain ⟨g0, g1, g2, g3, g4, g5⟩ := cells6 (HB7.out.pure HU2.out).l
              go_wp2_with (go_at_call 10; refine (HO_.out _ HU2.out x _ Ax cx (Rp.row_pure HX.out (HP7.out.trans HU2.out (fun _ _ h => h))) (by omega)).mono ?_; rintro e z1 ⟨rfl, hu⟩; rw [HPP.out]; have HZ1 := As.mk (Upd.trans HU2.out hu (fun _ _ h => h)); clear hu; apply As.out)
              refine ⟨?_⟩
              clear g0 g1 g2 g3 g4 g5
              obtain ⟨g0, g1, g2, g3, g4, g5⟩ := cells6 (HB7.out.pure HZ1.out).l
              go_wp2_with (go_at_call 10; refine (HQ_.out _ HZ1.out y _ Ay cy (Rp.row_pure HY.out (HP7.out.trans HZ1.out (fun _ _ h => h))) (by omega)).mono ?_; rintro e z2 ⟨rfl, hu⟩; rw [HQQ.out]; have HZ2 := As.mk (Upd.trans HZ1.out hu (fun _ _ h => h)); clear hu; apply As.out)
              refine ⟨?_⟩
              clear g0 g1 g2 g3 g4 g5
              have hzX := HZ2.out.size
              go_wp2_with (at_builtin; refine Rp.append_row intR (c := cx) (Rp.own_empty (F := fun _ => True) intR (heap_alloc_new z2 _) trivial) (Rp.row'_of (Rp.row_pure HX.out (HP7.out.trans (HZ2.out.alloc _) (fun _ _ h => h))) (fun _ _ h => h)) (Fz := fun _ => False) (fun _ h => h.elim) rfl _ _ 26 (.int .i64 0) 8 rfl Try.underlying26 int_info rfl (by decide) (by decide) rfl rfl (by simp; omega) ?_; intro v1 w7 ho1 hu1 hat1; have HO1 := As.mk (int_own_fp ho1); have HU7 := As.mk (Upd.trans (HZ2.out.alloc _) hu1 (fun q hq h => by simp [Value.ownBlock] at h; omega)); have HAT := As.mk hat1; clear ho1 hu1 hat1; apply As.out)
              refine ⟨?_⟩
              have hv1 : ∀ q, v1.ownBlock = some q → Wb.heap.size ≤ q := by
                intro q hq
                rcases HAT.out with h | ⟨b1, h, hb1⟩
                · rw [h] at hq; simp [Value.ownBlock] at hq; omega
                · rw [h] at hq; simp at hq hb1; omega
              have HV1 := As.mk hv1; clear hv1 HAT
              go_wp2_with (at_builtin; refine Rp.append_row intR (c := cy) HO1.out (Rp.row'_of (Rp.row_pure HY.out (HP7.out.trans HU7.out (fun _ _ h => h))) (fun _ _ h => h)) (Fz := fun _ => False) (fun _ h => h.elim) rfl _ _ 26 (.int .i64 0) 8 rfl Try.underlying26 int_info rfl (by decide) (by decide) rfl rfl (by simp; omega) ?_; intro v2 w9 ho2 hu2 hat2; have HO2 := As.mk (int_own_fp ho2); have HU9 := As.mk (Upd.trans HU7.out hu2 (fun q hq h => by have := HV1.out q h; omega)); clear ho2 hu2 hat2; apply As.out)
              refine ⟨?_⟩
              obtain ⟨ab, hab⟩ : ∃ ab, ab = x ++ y := ⟨_, rfl⟩
              have ho3 := HO2.out
              rw [List.nil_append, ← hab] at ho3
              obtain ⟨A2, c2, rfl, _, hr3⟩ := Rp.own_slice ho3
              have HR9 := As.mk hr3
              have habl : ab.length ≤ 1048576 * 4 := by rw [hab, List.length_append]; omega
              have hq5 := P5.out HPP.out HQQ.out; rw [← hab] at hq5; have HQ5 := As.mk hq5; clear hq5
              have hal := P2.out x; rw [HPP.out, Bool.true_or] at hal; have HAL := As.mk hal; clear hal
              clear hab ho3 hr3
              obtain ⟨⟨g0, g1, g2⟩, _⟩ := cells3 (HB7.out.pure HU9.out).s
              go_wp2_with (go_at_call 10; refine (HS_.out _ HU9.out ab _ A2 c2 HR9.out habl).mono ?_; rintro e z3 ⟨rfl, hu⟩; rw [HQ5.out]; have HZ3 := As.mk (Upd.trans HU9.out hu (fun _ _ h => h)); have HY3 := As.mk (hu); clear hu; apply As.out)
              refine ⟨?_⟩
              clear g0 g1 g2
              obtain ⟨⟨g0, g1, g2⟩, _⟩ := cells3 (HB7.out.pure HZ3.out).t
              go_wp2_with (go_at_call 10; refine (HT_.out _ HZ3.out x _ Ax cx (Rp.row_pure HX.out (HP7.out.trans HZ3.out (fun _ _ h => h))) (by omega)).mono ?_; rintro e z4 ⟨rfl, hu⟩; rw [HAL.out]; have HZ4 := As.mk (Upd.trans HZ3.out hu (fun _ _ h => h)); clear hu; apply As.out)
              refine ⟨?_⟩
              clear g0 g1 g2
              go_wp2_with (go_at_call 9; refine awake_calls.mono ?_; rintro e z9 ⟨rfl, hu9⟩)
              go_ret
              exact ⟨rfl, (HP7.out.trans HZ4.out (fun _ _ h => h)).trans hu9 (fun _ _ h => h)⟩
        · have e4 : (regCheck (.mk 3 noName [(.mk 6 noName [.mk ka na la]), (.mk 6 noName [.mk kb nb lb])]) g != 0) = true := by simp [hct]
          rw [hcs] at HCS
          generalize regCheck (.mk 3 noName [(.mk 6 noName [.mk ka na la]), (.mk 6 noName [.mk kb nb lb])]) g = v at *
          clear hcs hct
          obtain ⟨⟨k0, k1, k2⟩, _⟩ := cells3 HB7.out.s
          go_enter Try.func4, Try.ntmps4
          go_wp2_with (go_at_call 8; refine HCS.out.mono ?_; rintro e w1 ⟨rfl, hu⟩; have HU1 := As.mk hu; clear hu; apply As.out)
          refine ⟨?_⟩
          obtain ⟨⟨g0, g1, g2⟩, _⟩ := cells3 (HB7.out.pure HU1.out).t
          go_wp2_with (first | (go_at_call 8; refine (HCT.out _ HU1.out).mono ?_; rintro e w2 ⟨rfl, hu⟩; have HU2 := As.mk (Upd.trans HU1.out hu (fun _ _ h => h)); clear hu) | (go_at_call 9; refine awake_calls.mono ?_; rintro e w3 ⟨rfl, hu3⟩))
          go_ret
          exact ⟨rfl, (HP7.out.trans HU2.out (fun _ _ h => h)).trans hu3 (fun _ _ h => h)⟩
      · have e3 : (regCheck (.mk 2 noName [(.mk 6 noName [.mk ka na la]), (.mk 6 noName [.mk kb nb lb])]) g != 0) = true := by simp [hcs]
        generalize regCheck (.mk 2 noName [(.mk 6 noName [.mk ka na la]), (.mk 6 noName [.mk kb nb lb])]) g = v at *
        clear hcs
        obtain ⟨⟨k0, k1, k2⟩, _⟩ := cells3 HB7.out.s
        go_enter Try.func4, Try.ntmps4
        go_wp2_with (first | (go_at_call 8; refine HCS.out.mono ?_; rintro e w1 ⟨rfl, hu⟩; have HU1 := As.mk hu; clear hu) | (go_at_call 9; refine awake_calls.mono ?_; rintro e w3 ⟨rfl, hu3⟩))
        go_ret
        exact ⟨rfl, (HP7.out.trans HU1.out (fun _ _ h => h)).trans hu3 (fun _ _ h => h)⟩
end Go.Proofs.Ytchgeaklaeoplaa
