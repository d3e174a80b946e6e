/- EditValid: the law's walk. -/
import Derived.Test.YteeindicpbcjaaaGreatDoorEdDo
namespace Go.Proofs.YteeindicpbcjaaaGreatDoor
open Go.RowKit
set_option linter.unusedVariables false
set_option linter.unusedSimpArgs false

theorem toldR_apply {w : World} {F G : Nat → Prop} {A B : Option Addr} {c cs : Nat} {l : List Tok} {s : StepD} (hr : tokR.row w F A l) (hlc : l.length ≤ c) (hb : l.length ≤ 1048576 * 4) (hs : tokR.row w G B s.sl) (hsc : s.sl.length ≤ cs) (hsb : s.sl.length ≤ 100000) (hf : Form s B cs) (he : remapErr l s = 0) (hl : (houseCheck l).2 = 0) :
    Calls Tryz.prog 16 #[.slice A l.length c, .agg #[.int .i64 s.k, .int .i64 s.fr, .int .i64 s.tt, .int .i64 s.gf, .int .i64 s.gt, .int .i64 s.ins, .slice B s.sl.length cs, .int .i64 s.mark]] w (fun r w' => (∃ B', r = .returned (.tuple #[.slice (some B') (stepDo l s).length (stepDo l s).length, .int .i64 0]) ∧ tokR.row w' (fun k => w.heap.size ≤ k) (some B') (stepDo l s)) ∧ Pure w w') :=
  Apply_doc hr hb hs (by omega) (hf.doc (house_ne hl) hr hlc hs hsc he) he
set_option maxRecDepth 100000 in
set_option maxHeartbeats 4000000 in
theorem Valid_walk {w : World} {F : Nat → Prop} {A : Option Addr} {c : Nat} {l : List Tok} {K a1 b1 p d n : Int} {V : Value} (hr : tokR.row w F A l) (hlc : l.length ≤ c) (hb : l.length ≤ 1048576 * 4) :
    Calls Tryz.prog 9 #[.slice A l.length c, .agg #[.int .i64 K, .int .i64 a1, .int .i64 b1, .int .i64 p, .int .i64 d, .int .i64 n, V]] w (fun r w' => r = .returned (.bool true) ∧ Pure w w') := by
  have HH := As.mk (fun W => House_calls W)
  have HAW := As.mk (fun W => awake12_calls W)
  have HTW := As.mk (fun W => twin_zero W)
  by_cases h1 : 200 < l.length
  · have i1 : (200 : Int) < (l.length : Int) := by omega
    clear hr
    go_enter Tryz.func9, Tryz.ntmps9
    go_wp2_with (go_at_call 12; refine (HAW.out _).mono ?_; rintro r w1 ⟨rfl, hu⟩; obtain ⟨_, hu1⟩ := one_up hu; have HU1 := As.mk hu1; clear hu hu1)
    go_ret
    exact ⟨rfl, HU1.out⟩
  · have i1 : ¬ (200 : Int) < (l.length : Int) := by omega
    have HI := As.mk (fun W cb (hu : Pure w W) hs => EdDo_calls (K := K) (a1 := a1) (b1 := b1) (p := p) (d := d) (n := n) (V := V) (cb := cb) hs (Rp.row_pure hr hu) hlc hb)
    have HR := As.mk hr
    have HLC := As.mk (And.intro hlc hb)
    unfold CmdR at HI
    clear hr
    go_enter Tryz.func9, Tryz.ntmps9
    go_wp2_with (first | (go_at_call 29; refine (HI.out _ _ HU1.out HS1.out).mono ?_; rintro r w2 ⟨s, B, c', e, rfl, hu, hrow, hcs, hbs, hz, h0, hf⟩; have HU2 := As.mk (HU1.out.trans hu (fun _ _ h => h)); have HS2 := As.mk (HS1.out.pure hu); have HR2 := As.mk hrow; have HX2 := As.mk (And.intro hcs (And.intro hbs hf)); have HZ2 := As.mk hz; have H02 := As.mk h0; clear hu hrow hcs hbs hz h0 hf; apply As.out) | (go_at_call 13; refine (HH.out _).mono ?_; rintro r w1 ⟨cb1, rfl, hs, hu⟩; obtain ⟨hact, hu1⟩ := one_up hu; obtain ⟨m0, m1, m2, m3, m4, m5, m6⟩ := cells7 hact; have HS1 := As.mk hs; have HU1 := As.mk hu1; clear hu hu1 hs hact))
    refine ⟨?_⟩
    by_cases he : e = 0
    · subst he
      obtain ⟨hre, hl⟩ := H02.out rfl
      obtain ⟨x, hX⟩ : ∃ x, stepDo l s = x := ⟨_, rfl⟩
      have hx0 : (houseCheck x).2 = 0 := by rw [← hX]; exact (remap_zero.1 hre).2.2.2
      have hxl := house_len_le hx0
      have HA := As.mk (fun W (hu : Pure w2 W) => (by
        have := toldR_apply (Rp.row_pure (Rp.row_pure HR.out HU2.out) hu) HLC.out.1 HLC.out.2 (Rp.row_pure HR2.out hu) HX2.out.1 HX2.out.2.1 HX2.out.2.2 hre hl
        rw [hX] at this
        exact this : Calls Tryz.prog 16 #[.slice A l.length c, .agg #[.int .i64 s.k, .int .i64 s.fr, .int .i64 s.tt, .int .i64 s.gf, .int .i64 s.gt, .int .i64 s.ins, .slice B s.sl.length c', .int .i64 s.mark]] W (fun r w' => (∃ B', r = .returned (.tuple #[.slice (some B') x.length x.length, .int .i64 0]) ∧ tokR.row w' (fun k => W.heap.size ≤ k) (some B') x) ∧ Pure W w')))
      have HC := As.mk (fun W (B9 : Addr) (hs : SchR W cb1 houseRules houseGroups) (hrow : tokR.row W (fun k => (w2.alloc (.cells #[] 0)).heap.size ≤ k) (some B9) x) => house_check (c := x.length) hs hrow (by omega))
      rw [hx0] at HC
      generalize (houseCheck x).1 = e1 at *
      clear hre hl hX hx0 hxl HZ2 H02 HX2 HR2
      generalize s.k = sk at *
      generalize s.fr = sfr at *
      generalize s.tt = stt at *
      generalize s.gf = sgf at *
      generalize s.gt = sgt at *
      generalize s.ins = sins at *
      generalize s.mark = smark at *
      generalize s.sl.length = sln at *
      go_wp2_with (first | (go_at_call 12; refine (HAW.out _).mono ?_; rintro r w5 ⟨rfl, hu⟩; have HU5 := As.mk (HU4.out.trans hu (fun _ _ h => h)); clear hu) | (go_at_call 30; refine (HC.out _ _ HS3.out HR3.out).mono ?_; rintro r w4 ⟨rfl, hu⟩; have HU4 := As.mk (HU3.out.trans hu (fun _ _ h => h)); clear hu) | (go_at_call 16; refine (HA.out _ (Upd.alloc1 _ _ _)).mono ?_; rintro r w3 ⟨⟨B3, rfl, hrow⟩, hu⟩; have HU3 := As.mk ((HU2.out.alloc _).trans hu (fun _ _ h => h)); have HS3 := As.mk (HS2.out.pure ((Upd.alloc1 _ _ _).trans hu (fun _ _ h => h))); have HR3 := As.mk (Rp.row_fp (G := fun k => (w2.alloc (.cells #[] 0)).heap.size ≤ k) hrow (fun k h => by simpa using h)); clear hu hrow))
      go_ret
      exact ⟨rfl, HU5.out⟩
    · obtain ⟨rfl, rfl, rfl⟩ := HZ2.out he
      have f0 : (e != 0) = true := by simpa using he
      clear he HZ2 H02 HX2 HR2
      go_wp2_with (first | (go_at_call 12; refine (HAW.out _).mono ?_; rintro r w4 ⟨rfl, hu⟩; have HU4 := As.mk (HU3.out.trans hu (fun _ _ h => h)); clear hu) | (go_at_call 15; refine (HTW.out _).mono ?_; rintro r w3 ⟨rfl, hu⟩; have HU3 := As.mk ((HU2.out.alloc _).trans hu (fun _ _ h => h)); clear hu))
      go_ret
      exact ⟨rfl, HU4.out⟩
end Go.Proofs.YteeindicpbcjaaaGreatDoor
