/- reg.machine.build at one part with a sign behind it; all trees that are right. -/
import Derived.Test.YtchgeaklaeoplaaBuild4
namespace Go.Proofs.Ytchgeaklaeoplaa
open Go.RowKit
set_option linter.unusedVariables false
set_option linter.unusedSimpArgs false

theorem one_done {w V : World} {B : Nat} {M M2 : Nat → Prop} {mb : Nat} {ts fs : List (List Int)} {b0 b1 b2 tv fv : Value} {vs : List Value} (hm : Mach V B M2 mb ts fs b0 b1 b2 tv fv vs) (hM1 : ∀ k, M k → M2 k) (hM2 : ∀ k, M2 k → M k ∨ w.heap.size + 2 ≤ k) (hMl : ∀ k, M k → k < w.heap.size) (hB : B ≤ w.heap.size)
    {pb : Nat} (hp : w.heap.size + 2 ≤ pb) (hpM : ¬ M2 pb) (hrb : V.heap[w.heap.size + 1]? = some (.cells #[.bool false, .slice none 0 0, .slice none 0 0] 67 (0, 0))) {Af Al : Option Addr} {cf cl : Nat} {first last : List Int}
    (hf : intR.row V (fun k => (w.heap.size + 2 ≤ k ∧ ¬ M2 k) ∧ k ≠ pb) Af first) (hl : intR.row V (fun k => (w.heap.size + 2 ≤ k ∧ ¬ M2 k) ∧ k ≠ pb) Al last) (hu : Upd M w V) (nn : Bool) :
    ∀ w', w' = ((((V.setCell ⟨pb, 0, none⟩ (.bool nn)).setCell ⟨w.heap.size + 1, 0, none⟩ (.bool nn)).setCell ⟨w.heap.size + 1, 1, none⟩ (.slice Af first.length cf)).setCell ⟨w.heap.size + 1, 2, none⟩ (.slice Al last.length cl)) →
      w'.heap[w.heap.size + 1]? = some (.cells #[.bool nn, .slice Af first.length cf, .slice Al last.length cl] 67 (0, 0)) ∧
      BuildPost w w' B M mb b0 b1 b2 (ts, fs) ⟨nn, first, last⟩ (.returned (.agg #[.bool nn, .slice Af first.length cf, .slice Al last.length cl])) := by
  rintro w' rfl
  have hs1 := Upd.setCell1 (S := fun k => k = pb) V (p := ⟨pb, 0, none⟩) rfl (.bool nn)
  have hs2 := set3_upd (V.setCell ⟨pb, 0, none⟩ (.bool nn)) (w.heap.size + 1) (.bool nn) (.slice Af first.length cf) (.slice Al last.length cl)
  have hsz : ((((V.setCell ⟨pb, 0, none⟩ (.bool nn)).setCell ⟨w.heap.size + 1, 0, none⟩ (.bool nn)).setCell ⟨w.heap.size + 1, 1, none⟩ (.slice Af first.length cf)).setCell ⟨w.heap.size + 1, 2, none⟩ (.slice Al last.length cl)).heap.size = V.heap.size := by simp [World.setCell]
  have hall : Upd (fun k => k = pb ∨ k = w.heap.size + 1) V ((((V.setCell ⟨pb, 0, none⟩ (.bool nn)).setCell ⟨w.heap.size + 1, 0, none⟩ (.bool nn)).setCell ⟨w.heap.size + 1, 1, none⟩ (.slice Af first.length cf)).setCell ⟨w.heap.size + 1, 2, none⟩ (.slice Al last.length cl)) := Upd.trans (hs1.mono (fun _ _ h => .inl h)) hs2 (fun _ _ h => .inr h)
  refine ⟨set3 ((Below.heap_setCell _ _ _ _ (show w.heap.size + 1 ≠ pb by omega)).trans hrb) _ _ _, Af, cf, Al, cl, M2, tv, fv, vs, rfl, hm.upd hall (fun k _ hk => ?_), ⟨hM1, fun k hk => ?_⟩, ?_, ?_, Upd.trans hu hall (fun k hk he => by omega)⟩
  · rcases hk with rfl | rfl
    · exact ⟨by omega, hpM⟩
    · refine ⟨by omega, fun h => ?_⟩
      rcases hM2 _ h with h | h
      · have := hMl _ h; omega
      · omega
  · rcases hM2 k hk with h | h
    · exact .inl h
    · exact .inr ⟨by omega, by rw [hsz]; exact (hm.low k hk).2⟩
  · exact Rp.row_fp (Rp.row_upd hf hall (fun k _ hk he => by rcases he with he | he; exact hk.2 he; omega)) (fun k hk => ⟨by omega, hk.1.2⟩)
  · exact Rp.row_fp (Rp.row_upd hl hall (fun k _ hk he => by rcases he with he | he; exact hk.2 he; omega)) (fun k hk => ⟨by omega, hk.1.2⟩)

set_option maxRecDepth 100000 in
set_option maxHeartbeats 4000000 in
theorem build_one4 (nm : ByteArray) (x : Ex) (HI : BuildC x) (hcnt : x.cnt ≤ 199) : BuildC (.mk 4 nm [x]) := by
  intro w B M F G mb s b0 b1 b2 tv fv vs A Ag c cg g hsl0 hm hr hF hg hG hgl hs hfb
  obtain ⟨s1, s2⟩ := s
  have HII := As.mk HI
  have HM := As.mk hm
  have HR := As.mk hr
  have HF := As.mk hF
  have HG := As.mk hg
  have HGB := As.mk hG
  simp only at hsl0
  have hlb := (hm.low mb hm.mbM)
  have hc1 : (Ex.mk 4 nm [x]).cnt = 1 + x.cnt := by simp [Ex.cnt, Ex.cnts]
  rw [hc1] at hs hfb
  simp only at hs hfb
  have HV := As.mk (show glu g (.mk 4 nm [x]) (s1, s2) = (((glu g x (s1, s2)).1.1, joinF (glu g x (s1, s2)).1.2 (glu g x (s1, s2)).2.last (glu g x (s1, s2)).2.first), ⟨(glu g x (s1, s2)).2.none || decide ((4 : Int) ≠ 5), (glu g x (s1, s2)).2.first, (glu g x (s1, s2)).2.last⟩) by rw [glu]; simp [gluOne])
  have HS := As.mk hsl0
  have HFB := As.mk hfb
  obtain ⟨bA, oA, A1, c1, hAe, hFb, hbl, d0, d1, d2, hle1, hrow1⟩ := ex_at (j := 0) hr rfl
  subst hAe
  rw [show oA + 0 * 3 = oA by omega] at d0 d1 d2
  have HROW := As.mk hrow1
  have hbB := hF _ hFb
  clear hm hr hF hg hG hfb HI hc1 hsl0 hrow1
  show Calls Try.prog 35 #[.pointer (some ⟨mb, 0, none⟩), .agg #[.int .i64 4, .string nm, .slice (some ⟨bA, oA, none⟩) 1 c], .slice Ag g.length cg] w _
  go_enter Try.func35, Try.ntmps35
  have HBC := As.mk (fun (wz : World) (hz : Pure w wz) => HII.out wz B M F G mb (s1, s2) b0 b1 b2 tv fv vs A1 Ag c1 cg g HS.out (HM.out.pure hz) (Rp.row_pure HROW.out hz) HF.out (Rp.row_pure HG.out hz) HGB.out hgl (by simp only; omega) (fun y hy => by have := HFB.out y hy; omega))
  go_wp2_with (go_at_call 35; refine (HBC.out _ ((Upd.alloc1 _ _ _).alloc _)).mono ?_; rintro e w1 ⟨Aq, cq, Ar, cr, M1, tv1, fv1, vs1, rfl, hm1, hg1, hqf, hql, hu1⟩; have HMM := As.mk hm1; have HGG := As.mk hg1; have HQF := As.mk hqf; have HQL := As.mk hql; have HU1 := As.mk hu1; clear hm1 hg1 hqf hql hu1; apply As.out)
  refine ⟨?_⟩
  have hlow0 := HM.out.low mb HM.out.mbM
  have hMl : ∀ k, M k → k < w.heap.size := fun k hk => (HM.out.low k hk).2
  have hs0 : ((w.alloc (.cells #[.int .i64 4, .string nm, .slice (some ⟨bA, oA, none⟩) 1 c] 24)).alloc (.cells #[.bool false, .slice none 0 0, .slice none 0 0] 67)).heap.size = w.heap.size + 2 := by simp
  have hw1 : w.heap.size + 2 ≤ w1.heap.size := by have := HU1.out.size; omega
  have hrb : w1.heap[w.heap.size + 1]? = some (.cells #[.bool false, .slice none 0 0, .slice none 0 0] 67 (0, 0)) := (HU1.out.block _ (by omega) (fun h => by have := hMl _ h; omega)).trans (heap_alloc2_new w _ _)
  have heb : w1.heap[w.heap.size]? = some (.cells #[.int .i64 4, .string nm, .slice (some ⟨bA, oA, none⟩) 1 c] 24 (0, 0)) := (HU1.out.block _ (by omega) (fun h => by have := hMl _ h; omega)).trans (heap_alloc2_old w _ _)
  have hbd := glu_bd g x (s1, s2)
  have hqlen := hbd.len HS.out
  have hqhi := hbd.hi
  have hqlo := hbd.lo
  have hqfl := hbd.fl
  have hqll := hbd.ll
  simp only at hqhi hqlo
  have hm1lt : ∀ q, M1 q → q < w1.heap.size := fun q hq => (HMM.out.low q hq).2
  have hM12 : ∀ q, M1 q → M q ∨ w.heap.size + 2 ≤ q := fun q hq => by
    rcases HGG.out.2 q hq with h | h
    · exact .inl h
    · exact .inr (by have := h.1; omega)
  have HPW := As.mk (show Upd M w w1 from Upd.trans ((Upd.alloc1 M w _).alloc _) HU1.out (fun _ _ h => h))
  have HQf := As.mk (Rp.row_move (G := fun q => (w.heap.size + 2 ≤ q ∧ ¬ M1 q) ∧ q < w1.heap.size) (fun q hq hl => ⟨⟨⟨by have := hq.1; omega, hq.2⟩, hl⟩, hl, rfl⟩) HQF.out)
  have HQl := As.mk (Rp.row_move (G := fun q => (w.heap.size + 2 ≤ q ∧ ¬ M1 q) ∧ q < w1.heap.size) (fun q hq hl => ⟨⟨⟨by have := hq.1; omega, hq.2⟩, hl⟩, hl, rfl⟩) HQL.out)
  have HJ := As.mk (join_calls (cl := cr) (cf := cq) (HMM.out.pure (Upd.alloc1 (fun _ => False) w1 (.cells #[.bool (glu g x (s1, s2)).2.none, .slice Aq (glu g x (s1, s2)).2.first.length cq, .slice Ar (glu g x (s1, s2)).2.last.length cr] 67))) (Rp.row_pure HQl.out (Upd.alloc1 (fun _ => False) w1 _)) (Rp.row_pure HQf.out (Upd.alloc1 (fun _ => False) w1 _))
    (fun q hq _ hM => hq.1.2 hM) (fun q hq _ hM => hq.1.2 hM) (fun a ha => by have := hbd.last a ha; omega) (by omega) (by omega) (by omega) (fun y hy => by have := glu_fb g x (s1, s2) (1000000000 - 80000 * (1 + x.cnt)) (fun z hz => by have := HFB.out z hz; omega) (by omega) y hy; omega))
  obtain ⟨⟨e0, e1, e2⟩, _, _, _, el⟩ := cells3 heb
  have HEB := As.mk heb
  have HRB := As.mk hrb
  clear heb hrb
  go_wp2_with (go_at_call 49; refine HJ.out.mono ?_; rintro e w2 ⟨rfl, M2, fv2, vs2, hm2, hg2, hu2⟩; have HMJ := As.mk hm2; have HGJ := As.mk hg2; have HUJ := As.mk hu2; clear hm2 hg2 hu2; apply As.out)
  refine ⟨?_⟩
  have hal2 : (w1.alloc (.cells #[.bool (glu g x (s1, s2)).2.none, .slice Aq (glu g x (s1, s2)).2.first.length cq, .slice Ar (glu g x (s1, s2)).2.last.length cr] 67)).heap.size = w1.heap.size + 1 := by simp
  have hw2 : w1.heap.size + 1 ≤ w2.heap.size := by have := HUJ.out.size; omega
  have hrb2 : w2.heap[w.heap.size + 1]? = some (.cells #[.bool false, .slice none 0 0, .slice none 0 0] 67 (0, 0)) := (HUJ.out.block _ (by omega) (fun h => by rcases hM12 _ h with h | h; (have := hMl _ h; omega); omega)).trans ((Below.heap_alloc _ _ _ (by omega)).trans HRB.out)
  have heb2 : w2.heap[w.heap.size]? = some (.cells #[.int .i64 4, .string nm, .slice (some ⟨bA, oA, none⟩) 1 c] 24 (0, 0)) := (HUJ.out.block _ (by omega) (fun h => by rcases hM12 _ h with h | h; (have := hMl _ h; omega); omega)).trans ((Below.heap_alloc _ _ _ (by omega)).trans HEB.out)
  have hpb2 : w2.heap[w1.heap.size]? = some (.cells #[.bool (glu g x (s1, s2)).2.none, .slice Aq (glu g x (s1, s2)).2.first.length cq, .slice Ar (glu g x (s1, s2)).2.last.length cr] 67 (0, 0)) := (HUJ.out.block _ (by omega) (fun h => by have := hm1lt _ h; omega)).trans (heap_alloc_new w1 _)
  have hM2' : ∀ q, M2 q → M1 q ∨ w1.heap.size + 1 ≤ q := fun q hq => by
    rcases HGJ.out.2 q hq with h | h
    · exact .inl h
    · exact .inr (by have := h.1; omega)
  have HEND := As.mk (one_done (nn := true) (cf := cq) (cl := cr) (pb := w1.heap.size) HMJ.out (fun q hq => HGJ.out.1 q (HGG.out.1 q hq)) (fun q hq => by
      rcases hM2' q hq with h | h
      · exact hM12 q h
      · exact .inr (by omega)) hMl (by omega) hw1 (fun h => by rcases hM2' _ h with h | h; (have := hm1lt _ h; omega); omega) hrb2
    (Rp.row_fp (Rp.row_upd (Rp.row_pure HQf.out (Upd.alloc1 (fun _ => False) w1 _)) HUJ.out (fun q _ hq hM => hq.1.2 hM)) (fun q hq => ⟨⟨hq.1.1, fun hM => by rcases hM2' q hM with h | h; exact hq.1.2 h; have := hq.2; omega⟩, by have := hq.2; omega⟩))
    (Rp.row_fp (Rp.row_upd (Rp.row_pure HQl.out (Upd.alloc1 (fun _ => False) w1 _)) HUJ.out (fun q _ hq hM => hq.1.2 hM)) (fun q hq => ⟨⟨hq.1.1, fun hM => by rcases hM2' q hM with h | h; exact hq.1.2 h; have := hq.2; omega⟩, by have := hq.2; omega⟩))
    (Upd.trans HPW.out (Upd.trans (Upd.alloc1 M1 w1 _) HUJ.out (fun _ _ h => h)) (fun q hq h => by rcases hM12 q h with h | h; exact h; omega)))
  obtain ⟨⟨p0, p1, p2⟩, pf0, pf1, pf2, pl0⟩ := cells3 hpb2
  obtain ⟨⟨r0, r1, r2⟩, rf0, rf1, rf2, rl0⟩ := cells3 hrb2
  obtain ⟨⟨x0, x1, x2⟩, _, _, _, xl0⟩ := cells3 heb2
  have hne1 : w.heap.size + 1 ≠ w1.heap.size := by omega
  have hne2 : w1.heap.size ≠ w.heap.size + 1 := by omega
  have hne3 : w.heap.size ≠ w1.heap.size := by omega
  clear hpb2 hrb2 heb2
  cases hqn : (glu g x (s1, s2)).2.none
  all_goals
    simp only [hqn] at *
    go_wp2
    obtain ⟨he1, he2⟩ := HEND.out _ rfl
    refine build_ret (rb := w.heap.size + 1) rfl he1 rfl ?_
    rw [HV.out]
    first | exact he2 | simpa using he2
set_option maxRecDepth 100000 in
set_option maxHeartbeats 4000000 in
theorem build_one5 (nm : ByteArray) (x : Ex) (HI : BuildC x) (hcnt : x.cnt ≤ 199) : BuildC (.mk 5 nm [x]) := by
  intro w B M F G mb s b0 b1 b2 tv fv vs A Ag c cg g hsl0 hm hr hF hg hG hgl hs hfb
  obtain ⟨s1, s2⟩ := s
  have HII := As.mk HI
  have HM := As.mk hm
  have HR := As.mk hr
  have HF := As.mk hF
  have HG := As.mk hg
  have HGB := As.mk hG
  simp only at hsl0
  have hlb := (hm.low mb hm.mbM)
  have hc1 : (Ex.mk 5 nm [x]).cnt = 1 + x.cnt := by simp [Ex.cnt, Ex.cnts]
  rw [hc1] at hs hfb
  simp only at hs hfb
  have HV := As.mk (show glu g (.mk 5 nm [x]) (s1, s2) = (((glu g x (s1, s2)).1.1, joinF (glu g x (s1, s2)).1.2 (glu g x (s1, s2)).2.last (glu g x (s1, s2)).2.first), ⟨(glu g x (s1, s2)).2.none || decide ((5 : Int) ≠ 5), (glu g x (s1, s2)).2.first, (glu g x (s1, s2)).2.last⟩) by rw [glu]; simp [gluOne])
  have HS := As.mk hsl0
  have HFB := As.mk hfb
  obtain ⟨bA, oA, A1, c1, hAe, hFb, hbl, d0, d1, d2, hle1, hrow1⟩ := ex_at (j := 0) hr rfl
  subst hAe
  rw [show oA + 0 * 3 = oA by omega] at d0 d1 d2
  have HROW := As.mk hrow1
  have hbB := hF _ hFb
  clear hm hr hF hg hG hfb HI hc1 hsl0 hrow1
  show Calls Try.prog 35 #[.pointer (some ⟨mb, 0, none⟩), .agg #[.int .i64 5, .string nm, .slice (some ⟨bA, oA, none⟩) 1 c], .slice Ag g.length cg] w _
  go_enter Try.func35, Try.ntmps35
  have HBC := As.mk (fun (wz : World) (hz : Pure w wz) => HII.out wz B M F G mb (s1, s2) b0 b1 b2 tv fv vs A1 Ag c1 cg g HS.out (HM.out.pure hz) (Rp.row_pure HROW.out hz) HF.out (Rp.row_pure HG.out hz) HGB.out hgl (by simp only; omega) (fun y hy => by have := HFB.out y hy; omega))
  go_wp2_with (go_at_call 35; refine (HBC.out _ ((Upd.alloc1 _ _ _).alloc _)).mono ?_; rintro e w1 ⟨Aq, cq, Ar, cr, M1, tv1, fv1, vs1, rfl, hm1, hg1, hqf, hql, hu1⟩; have HMM := As.mk hm1; have HGG := As.mk hg1; have HQF := As.mk hqf; have HQL := As.mk hql; have HU1 := As.mk hu1; clear hm1 hg1 hqf hql hu1; apply As.out)
  refine ⟨?_⟩
  have hlow0 := HM.out.low mb HM.out.mbM
  have hMl : ∀ k, M k → k < w.heap.size := fun k hk => (HM.out.low k hk).2
  have hs0 : ((w.alloc (.cells #[.int .i64 5, .string nm, .slice (some ⟨bA, oA, none⟩) 1 c] 24)).alloc (.cells #[.bool false, .slice none 0 0, .slice none 0 0] 67)).heap.size = w.heap.size + 2 := by simp
  have hw1 : w.heap.size + 2 ≤ w1.heap.size := by have := HU1.out.size; omega
  have hrb : w1.heap[w.heap.size + 1]? = some (.cells #[.bool false, .slice none 0 0, .slice none 0 0] 67 (0, 0)) := (HU1.out.block _ (by omega) (fun h => by have := hMl _ h; omega)).trans (heap_alloc2_new w _ _)
  have heb : w1.heap[w.heap.size]? = some (.cells #[.int .i64 5, .string nm, .slice (some ⟨bA, oA, none⟩) 1 c] 24 (0, 0)) := (HU1.out.block _ (by omega) (fun h => by have := hMl _ h; omega)).trans (heap_alloc2_old w _ _)
  have hbd := glu_bd g x (s1, s2)
  have hqlen := hbd.len HS.out
  have hqhi := hbd.hi
  have hqlo := hbd.lo
  have hqfl := hbd.fl
  have hqll := hbd.ll
  simp only at hqhi hqlo
  have hm1lt : ∀ q, M1 q → q < w1.heap.size := fun q hq => (HMM.out.low q hq).2
  have hM12 : ∀ q, M1 q → M q ∨ w.heap.size + 2 ≤ q := fun q hq => by
    rcases HGG.out.2 q hq with h | h
    · exact .inl h
    · exact .inr (by have := h.1; omega)
  have HPW := As.mk (show Upd M w w1 from Upd.trans ((Upd.alloc1 M w _).alloc _) HU1.out (fun _ _ h => h))
  have HQf := As.mk (Rp.row_move (G := fun q => (w.heap.size + 2 ≤ q ∧ ¬ M1 q) ∧ q < w1.heap.size) (fun q hq hl => ⟨⟨⟨by have := hq.1; omega, hq.2⟩, hl⟩, hl, rfl⟩) HQF.out)
  have HQl := As.mk (Rp.row_move (G := fun q => (w.heap.size + 2 ≤ q ∧ ¬ M1 q) ∧ q < w1.heap.size) (fun q hq hl => ⟨⟨⟨by have := hq.1; omega, hq.2⟩, hl⟩, hl, rfl⟩) HQL.out)
  have HJ := As.mk (join_calls (cl := cr) (cf := cq) (HMM.out.pure (Upd.alloc1 (fun _ => False) w1 (.cells #[.bool (glu g x (s1, s2)).2.none, .slice Aq (glu g x (s1, s2)).2.first.length cq, .slice Ar (glu g x (s1, s2)).2.last.length cr] 67))) (Rp.row_pure HQl.out (Upd.alloc1 (fun _ => False) w1 _)) (Rp.row_pure HQf.out (Upd.alloc1 (fun _ => False) w1 _))
    (fun q hq _ hM => hq.1.2 hM) (fun q hq _ hM => hq.1.2 hM) (fun a ha => by have := hbd.last a ha; omega) (by omega) (by omega) (by omega) (fun y hy => by have := glu_fb g x (s1, s2) (1000000000 - 80000 * (1 + x.cnt)) (fun z hz => by have := HFB.out z hz; omega) (by omega) y hy; omega))
  obtain ⟨⟨e0, e1, e2⟩, _, _, _, el⟩ := cells3 heb
  have HEB := As.mk heb
  have HRB := As.mk hrb
  clear heb hrb
  go_wp2_with (go_at_call 49; refine HJ.out.mono ?_; rintro e w2 ⟨rfl, M2, fv2, vs2, hm2, hg2, hu2⟩; have HMJ := As.mk hm2; have HGJ := As.mk hg2; have HUJ := As.mk hu2; clear hm2 hg2 hu2; apply As.out)
  refine ⟨?_⟩
  have hal2 : (w1.alloc (.cells #[.bool (glu g x (s1, s2)).2.none, .slice Aq (glu g x (s1, s2)).2.first.length cq, .slice Ar (glu g x (s1, s2)).2.last.length cr] 67)).heap.size = w1.heap.size + 1 := by simp
  have hw2 : w1.heap.size + 1 ≤ w2.heap.size := by have := HUJ.out.size; omega
  have hrb2 : w2.heap[w.heap.size + 1]? = some (.cells #[.bool false, .slice none 0 0, .slice none 0 0] 67 (0, 0)) := (HUJ.out.block _ (by omega) (fun h => by rcases hM12 _ h with h | h; (have := hMl _ h; omega); omega)).trans ((Below.heap_alloc _ _ _ (by omega)).trans HRB.out)
  have heb2 : w2.heap[w.heap.size]? = some (.cells #[.int .i64 5, .string nm, .slice (some ⟨bA, oA, none⟩) 1 c] 24 (0, 0)) := (HUJ.out.block _ (by omega) (fun h => by rcases hM12 _ h with h | h; (have := hMl _ h; omega); omega)).trans ((Below.heap_alloc _ _ _ (by omega)).trans HEB.out)
  have hpb2 : w2.heap[w1.heap.size]? = some (.cells #[.bool (glu g x (s1, s2)).2.none, .slice Aq (glu g x (s1, s2)).2.first.length cq, .slice Ar (glu g x (s1, s2)).2.last.length cr] 67 (0, 0)) := (HUJ.out.block _ (by omega) (fun h => by have := hm1lt _ h; omega)).trans (heap_alloc_new w1 _)
  have hM2' : ∀ q, M2 q → M1 q ∨ w1.heap.size + 1 ≤ q := fun q hq => by
    rcases HGJ.out.2 q hq with h | h
    · exact .inl h
    · exact .inr (by have := h.1; omega)
  have HEND := As.mk (one_done (nn := (glu g x (s1, s2)).2.none) (cf := cq) (cl := cr) (pb := w1.heap.size) HMJ.out (fun q hq => HGJ.out.1 q (HGG.out.1 q hq)) (fun q hq => by
      rcases hM2' q hq with h | h
      · exact hM12 q h
      · exact .inr (by omega)) hMl (by omega) hw1 (fun h => by rcases hM2' _ h with h | h; (have := hm1lt _ h; omega); omega) hrb2
    (Rp.row_fp (Rp.row_upd (Rp.row_pure HQf.out (Upd.alloc1 (fun _ => False) w1 _)) HUJ.out (fun q _ hq hM => hq.1.2 hM)) (fun q hq => ⟨⟨hq.1.1, fun hM => by rcases hM2' q hM with h | h; exact hq.1.2 h; have := hq.2; omega⟩, by have := hq.2; omega⟩))
    (Rp.row_fp (Rp.row_upd (Rp.row_pure HQl.out (Upd.alloc1 (fun _ => False) w1 _)) HUJ.out (fun q _ hq hM => hq.1.2 hM)) (fun q hq => ⟨⟨hq.1.1, fun hM => by rcases hM2' q hM with h | h; exact hq.1.2 h; have := hq.2; omega⟩, by have := hq.2; omega⟩))
    (Upd.trans HPW.out (Upd.trans (Upd.alloc1 M1 w1 _) HUJ.out (fun _ _ h => h)) (fun q hq h => by rcases hM12 q h with h | h; exact h; omega)))
  obtain ⟨⟨p0, p1, p2⟩, pf0, pf1, pf2, pl0⟩ := cells3 hpb2
  obtain ⟨⟨r0, r1, r2⟩, rf0, rf1, rf2, rl0⟩ := cells3 hrb2
  obtain ⟨⟨x0, x1, x2⟩, _, _, _, xl0⟩ := cells3 heb2
  have hne1 : w.heap.size + 1 ≠ w1.heap.size := by omega
  have hne2 : w1.heap.size ≠ w.heap.size + 1 := by omega
  have hne3 : w.heap.size ≠ w1.heap.size := by omega
  clear hpb2 hrb2 heb2
  cases hqn : (glu g x (s1, s2)).2.none
  all_goals
    simp only [hqn] at *
    go_wp2
    obtain ⟨he1, he2⟩ := HEND.out _ rfl
    refine build_ret (rb := w.heap.size + 1) rfl he1 rfl ?_
    rw [HV.out]
    first | exact he2 | simpa using he2
set_option maxRecDepth 100000 in
set_option maxHeartbeats 4000000 in
theorem build_one6 (nm : ByteArray) (x : Ex) (HI : BuildC x) (hcnt : x.cnt ≤ 199) : BuildC (.mk 6 nm [x]) := by
  intro w B M F G mb s b0 b1 b2 tv fv vs A Ag c cg g hsl0 hm hr hF hg hG hgl hs hfb
  obtain ⟨s1, s2⟩ := s
  have HII := As.mk HI
  have HM := As.mk hm
  have HR := As.mk hr
  have HF := As.mk hF
  have HG := As.mk hg
  have HGB := As.mk hG
  simp only at hsl0
  have hlb := (hm.low mb hm.mbM)
  have hc1 : (Ex.mk 6 nm [x]).cnt = 1 + x.cnt := by simp [Ex.cnt, Ex.cnts]
  rw [hc1] at hs hfb
  simp only at hs hfb
  have HV := As.mk (show glu g (.mk 6 nm [x]) (s1, s2) = (((glu g x (s1, s2)).1.1, (glu g x (s1, s2)).1.2), ⟨(glu g x (s1, s2)).2.none || decide ((6 : Int) ≠ 5), (glu g x (s1, s2)).2.first, (glu g x (s1, s2)).2.last⟩) by rw [glu]; simp [gluOne])
  have HS := As.mk hsl0
  have HFB := As.mk hfb
  obtain ⟨bA, oA, A1, c1, hAe, hFb, hbl, d0, d1, d2, hle1, hrow1⟩ := ex_at (j := 0) hr rfl
  subst hAe
  rw [show oA + 0 * 3 = oA by omega] at d0 d1 d2
  have HROW := As.mk hrow1
  have hbB := hF _ hFb
  clear hm hr hF hg hG hfb HI hc1 hsl0 hrow1
  show Calls Try.prog 35 #[.pointer (some ⟨mb, 0, none⟩), .agg #[.int .i64 6, .string nm, .slice (some ⟨bA, oA, none⟩) 1 c], .slice Ag g.length cg] w _
  go_enter Try.func35, Try.ntmps35
  have HBC := As.mk (fun (wz : World) (hz : Pure w wz) => HII.out wz B M F G mb (s1, s2) b0 b1 b2 tv fv vs A1 Ag c1 cg g HS.out (HM.out.pure hz) (Rp.row_pure HROW.out hz) HF.out (Rp.row_pure HG.out hz) HGB.out hgl (by simp only; omega) (fun y hy => by have := HFB.out y hy; omega))
  go_wp2_with (go_at_call 35; refine (HBC.out _ ((Upd.alloc1 _ _ _).alloc _)).mono ?_; rintro e w1 ⟨Aq, cq, Ar, cr, M1, tv1, fv1, vs1, rfl, hm1, hg1, hqf, hql, hu1⟩; have HMM := As.mk hm1; have HGG := As.mk hg1; have HQF := As.mk hqf; have HQL := As.mk hql; have HU1 := As.mk hu1; clear hm1 hg1 hqf hql hu1; apply As.out)
  refine ⟨?_⟩
  have hlow0 := HM.out.low mb HM.out.mbM
  have hMl : ∀ k, M k → k < w.heap.size := fun k hk => (HM.out.low k hk).2
  have hs0 : ((w.alloc (.cells #[.int .i64 6, .string nm, .slice (some ⟨bA, oA, none⟩) 1 c] 24)).alloc (.cells #[.bool false, .slice none 0 0, .slice none 0 0] 67)).heap.size = w.heap.size + 2 := by simp
  have hw1 : w.heap.size + 2 ≤ w1.heap.size := by have := HU1.out.size; omega
  have hrb : w1.heap[w.heap.size + 1]? = some (.cells #[.bool false, .slice none 0 0, .slice none 0 0] 67 (0, 0)) := (HU1.out.block _ (by omega) (fun h => by have := hMl _ h; omega)).trans (heap_alloc2_new w _ _)
  have heb : w1.heap[w.heap.size]? = some (.cells #[.int .i64 6, .string nm, .slice (some ⟨bA, oA, none⟩) 1 c] 24 (0, 0)) := (HU1.out.block _ (by omega) (fun h => by have := hMl _ h; omega)).trans (heap_alloc2_old w _ _)
  have hbd := glu_bd g x (s1, s2)
  have hqlen := hbd.len HS.out
  have hqhi := hbd.hi
  have hqlo := hbd.lo
  have hqfl := hbd.fl
  have hqll := hbd.ll
  simp only at hqhi hqlo
  have hm1lt : ∀ q, M1 q → q < w1.heap.size := fun q hq => (HMM.out.low q hq).2
  have hM12 : ∀ q, M1 q → M q ∨ w.heap.size + 2 ≤ q := fun q hq => by
    rcases HGG.out.2 q hq with h | h
    · exact .inl h
    · exact .inr (by have := h.1; omega)
  have HPW := As.mk (show Upd M w w1 from Upd.trans ((Upd.alloc1 M w _).alloc _) HU1.out (fun _ _ h => h))
  have HQf := As.mk (Rp.row_move (G := fun q => (w.heap.size + 2 ≤ q ∧ ¬ M1 q) ∧ q < w1.heap.size) (fun q hq hl => ⟨⟨⟨by have := hq.1; omega, hq.2⟩, hl⟩, hl, rfl⟩) HQF.out)
  have HQl := As.mk (Rp.row_move (G := fun q => (w.heap.size + 2 ≤ q ∧ ¬ M1 q) ∧ q < w1.heap.size) (fun q hq hl => ⟨⟨⟨by have := hq.1; omega, hq.2⟩, hl⟩, hl, rfl⟩) HQL.out)
  have hrb2 : (w1.alloc (.cells #[.bool (glu g x (s1, s2)).2.none, .slice Aq (glu g x (s1, s2)).2.first.length cq, .slice Ar (glu g x (s1, s2)).2.last.length cr] 67)).heap[w.heap.size + 1]? = some (.cells #[.bool false, .slice none 0 0, .slice none 0 0] 67 (0, 0)) := (Below.heap_alloc _ _ _ (by omega)).trans hrb
  have heb2 : (w1.alloc (.cells #[.bool (glu g x (s1, s2)).2.none, .slice Aq (glu g x (s1, s2)).2.first.length cq, .slice Ar (glu g x (s1, s2)).2.last.length cr] 67)).heap[w.heap.size]? = some (.cells #[.int .i64 6, .string nm, .slice (some ⟨bA, oA, none⟩) 1 c] 24 (0, 0)) := (Below.heap_alloc _ _ _ (by omega)).trans heb
  have hpb2 : (w1.alloc (.cells #[.bool (glu g x (s1, s2)).2.none, .slice Aq (glu g x (s1, s2)).2.first.length cq, .slice Ar (glu g x (s1, s2)).2.last.length cr] 67)).heap[w1.heap.size]? = some (.cells #[.bool (glu g x (s1, s2)).2.none, .slice Aq (glu g x (s1, s2)).2.first.length cq, .slice Ar (glu g x (s1, s2)).2.last.length cr] 67 (0, 0)) := heap_alloc_new w1 _
  have HEND := As.mk (one_done (nn := true) (cf := cq) (cl := cr) (pb := w1.heap.size) (HMM.out.pure (Upd.alloc1 (fun _ => False) w1 (.cells #[.bool (glu g x (s1, s2)).2.none, .slice Aq (glu g x (s1, s2)).2.first.length cq, .slice Ar (glu g x (s1, s2)).2.last.length cr] 67))) (fun q hq => HGG.out.1 q hq) hM12 hMl (by omega) hw1 (fun h => by have := hm1lt _ h; omega) hrb2
    (Rp.row_fp (Rp.row_pure HQf.out (Upd.alloc1 (fun _ => False) w1 _)) (fun q hq => ⟨hq.1, by have := hq.2; omega⟩))
    (Rp.row_fp (Rp.row_pure HQl.out (Upd.alloc1 (fun _ => False) w1 _)) (fun q hq => ⟨hq.1, by have := hq.2; omega⟩))
    (Upd.trans HPW.out (Upd.alloc1 M w1 _) (fun q hq h => h)))
  clear heb hrb
  obtain ⟨⟨p0, p1, p2⟩, pf0, pf1, pf2, pl0⟩ := cells3 hpb2
  obtain ⟨⟨r0, r1, r2⟩, rf0, rf1, rf2, rl0⟩ := cells3 hrb2
  obtain ⟨⟨x0, x1, x2⟩, _, _, _, xl0⟩ := cells3 heb2
  have hne1 : w.heap.size + 1 ≠ w1.heap.size := by omega
  have hne2 : w1.heap.size ≠ w.heap.size + 1 := by omega
  have hne3 : w.heap.size ≠ w1.heap.size := by omega
  clear hpb2 hrb2 heb2
  generalize hW2 : (w1.alloc (.cells #[.bool (glu g x (s1, s2)).2.none, .slice Aq (glu g x (s1, s2)).2.first.length cq, .slice Ar (glu g x (s1, s2)).2.last.length cr] 67)) = w2 at *
  cases hqn : (glu g x (s1, s2)).2.none
  all_goals
    simp only [hqn] at *
    go_wp2
    obtain ⟨he1, he2⟩ := HEND.out _ rfl
    refine build_ret (rb := w.heap.size + 1) rfl he1 rfl ?_
    rw [HV.out]
    first | exact he2 | simpa using he2

theorem cnts_mem {x : Ex} {l : List Ex} (h : x ∈ l) : x.cnt ≤ Ex.cnts l := Ex.cnt_mem h
/-- Every tree that is right. -/
theorem build_right (N : Nat) : ∀ (e : Ex) (i : Int), e.cnt ≤ N → e.okB i = true → e.cnt ≤ 200 → BuildC e := by
  induction N with
  | zero => intro e i he; have := e.cnt_pos; omega
  | succ N ih =>
    intro e i he hok hc
    obtain ⟨k, nm, l⟩ := e
    have hc1 : (Ex.mk k nm l).cnt = 1 + Ex.cnts l := by simp [Ex.cnt]
    by_cases h1 : k = 1
    · subst h1; exact build_name nm l
    · by_cases h2 : (k = 0 ∧ i ≠ 0) ∨ ((k = 2 ∨ k = 3) ∧ i = k) ∨ ¬ (k = 0 ∨ k = 2 ∨ k = 3 ∨ k = 4 ∨ k = 5 ∨ k = 6)
      · rw [right_early h1 h2] at hok; cases hok
      · rw [right_late h1 h2] at hok
        simp only [Bool.and_eq_true, decide_eq_true_eq] at hok
        obtain ⟨⟨⟨hall, _⟩, hlo⟩, hhi⟩ := hok
        rw [Ex.oksB_all, List.all_eq_true] at hall
        have hI : ∀ x ∈ l, BuildC x := fun x hx => ih x k (by have := Ex.cnt_mem hx; omega) (hall x hx) (by have := Ex.cnt_mem hx; omega)
        have h3 : k = 0 ∨ k = 2 ∨ k = 3 ∨ k = 4 ∨ k = 5 ∨ k = 6 := by omega
        rcases h3 with rfl | rfl | rfl | rfl | rfl | rfl
        · exact build_none nm l
        · exact build_seq nm l hI (by omega)
        · exact build_alt nm l hI (by omega)
        · match l, hlo, hhi with
          | [x], _, _ => exact build_one4 nm x (hI x (by simp)) (by have := Ex.cnt_mem (x := x) (l := [x]) (by simp); omega)
          | [], h, _ => simp [leastE] at h
          | _ :: _ :: _, _, h => simp [mostE] at h
        · match l, hlo, hhi with
          | [x], _, _ => exact build_one5 nm x (hI x (by simp)) (by have := Ex.cnt_mem (x := x) (l := [x]) (by simp); omega)
          | [], h, _ => simp [leastE] at h
          | _ :: _ :: _, _, h => simp [mostE] at h
        · match l, hlo, hhi with
          | [x], _, _ => exact build_one6 nm x (hI x (by simp)) (by have := Ex.cnt_mem (x := x) (l := [x]) (by simp); omega)
          | [], h, _ => simp [leastE] at h
          | _ :: _ :: _, _, h => simp [mostE] at h
end Go.Proofs.Ytchgeaklaeoplaa
