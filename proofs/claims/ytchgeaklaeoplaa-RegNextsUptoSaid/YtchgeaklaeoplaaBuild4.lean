/- reg.machine.build at a row of parts. -/
import Derived.Test.YtchgeaklaeoplaaBuild3
namespace Go.Proofs.Ytchgeaklaeoplaa
open Go.RowKit
set_option linter.unusedVariables false
set_option linter.unusedSimpArgs false

/-- Between the stores of one round: only the box of what is reckoned has turned since W. -/
structure Stg (W V : World) (R : Nat → Prop) (pb qb : Nat) (pn : Bool) (pf pl : List Int) (Af : Option Addr) (cf : Nat) (Al : Option Addr) (cl : Nat) (qn : Bool) (qf ql : List Int) (Aq : Option Addr) (cq : Nat) (Ar : Option Addr) (cr : Nat) : Prop where
  upd : Upd (fun k => k = pb) W V
  pbx : V.heap[pb]? = some (.cells #[.bool pn, .slice Af pf.length cf, .slice Al pl.length cl] 67 (0, 0))
  qbx : V.heap[qb]? = some (.cells #[.bool qn, .slice Aq qf.length cq, .slice Ar ql.length cr] 67 (0, 0))
  ne : qb ≠ pb
  rf : intR.row V R Af pf
  rl : intR.row V R Al pl
  rqf : intR.row V R Aq qf
  rql : intR.row V R Ar ql
  out : ¬ R pb

namespace Stg
variable {W V w4 : World} {R : Nat → Prop} {pb qb : Nat} {pn : Bool} {pf pl : List Int} {Af : Option Addr} {cf : Nat} {Al : Option Addr} {cl : Nat} {qn : Bool} {qf ql : List Int} {Aq : Option Addr} {cq : Nat} {Ar : Option Addr} {cr : Nat}
theorem pure (h : Stg W V R pb qb pn pf pl Af cf Al cl qn qf ql Aq cq Ar cr) (hu : Pure V w4) : Stg W w4 R pb qb pn pf pl Af cf Al cl qn qf ql Aq cq Ar cr :=
  ⟨Upd.trans h.upd hu (fun _ _ h => h.elim), (hu.block _ (Array.getElem?_eq_some_iff.1 h.pbx).1 (fun h => h)).trans h.pbx, (hu.block _ (Array.getElem?_eq_some_iff.1 h.qbx).1 (fun h => h)).trans h.qbx, h.ne, Rp.row_pure h.rf hu, Rp.row_pure h.rl hu, Rp.row_pure h.rqf hu, Rp.row_pure h.rql hu, h.out⟩
theorem moved (h : Stg W V R pb qb pn pf pl Af cf Al cl qn qf ql Aq cq Ar cr) {i : Nat} {v : Value} {A : Option Addr} {xs : List Int} (hr : intR.row V R A xs) : intR.row (V.setCell ⟨pb, i, none⟩ v) R A xs :=
  Rp.row_upd hr (Upd.setCell1 (S := fun k => k = pb) V (p := ⟨pb, i, none⟩) rfl v) (fun k _ hk he => h.out (he ▸ hk))
theorem first (h : Stg W V R pb qb pn pf pl Af cf Al cl qn qf ql Aq cq Ar cr) {A3 : Option Addr} {c3 : Nat} {xs : List Int} (hr : intR.row V R A3 xs) : Stg W (V.setCell ⟨pb, 1, none⟩ (.slice A3 xs.length c3)) R pb qb pn xs pl A3 c3 Al cl qn qf ql Aq cq Ar cr :=
  ⟨h.upd.setCell (p := ⟨pb, 1, none⟩) (fun _ => rfl) _, by simp [World.setCell, Array.getElem?_modify, h.pbx], (Below.heap_setCell _ _ _ _ h.ne).trans h.qbx, h.ne, h.moved hr, h.moved h.rl, h.moved h.rqf, h.moved h.rql, h.out⟩
theorem last (h : Stg W V R pb qb pn pf pl Af cf Al cl qn qf ql Aq cq Ar cr) {A3 : Option Addr} {c3 : Nat} {xs : List Int} (hr : intR.row V R A3 xs) : Stg W (V.setCell ⟨pb, 2, none⟩ (.slice A3 xs.length c3)) R pb qb pn pf xs Af cf A3 c3 qn qf ql Aq cq Ar cr :=
  ⟨h.upd.setCell (p := ⟨pb, 2, none⟩) (fun _ => rfl) _, by simp [World.setCell, Array.getElem?_modify, h.pbx], (Below.heap_setCell _ _ _ _ h.ne).trans h.qbx, h.ne, h.moved h.rf, h.moved hr, h.moved h.rqf, h.moved h.rql, h.out⟩
theorem noneB (h : Stg W V R pb qb pn pf pl Af cf Al cl qn qf ql Aq cq Ar cr) (b : Bool) : Stg W (V.setCell ⟨pb, 0, none⟩ (.bool b)) R pb qb b pf pl Af cf Al cl qn qf ql Aq cq Ar cr :=
  ⟨h.upd.setCell (p := ⟨pb, 0, none⟩) (fun _ => rfl) _, by simp [World.setCell, Array.getElem?_modify, h.pbx], (Below.heap_setCell _ _ _ _ h.ne).trans h.qbx, h.ne, h.moved h.rf, h.moved h.rl, h.moved h.rqf, h.moved h.rql, h.out⟩
theorem cells (h : Stg W V R pb qb pn pf pl Af cf Al cl qn qf ql Aq cq Ar cr) {v : World} (hv : Pure V v) : v.cell? ⟨pb, 0, none⟩ = some (.bool pn) ∧ v.cell? ⟨pb, 1, none⟩ = some (.slice Af pf.length cf) ∧ v.cell? ⟨pb, 2, none⟩ = some (.slice Al pl.length cl) ∧ v.cell? ⟨qb, 0, none⟩ = some (.bool qn) ∧ v.cell? ⟨qb, 1, none⟩ = some (.slice Aq qf.length cq) ∧ v.cell? ⟨qb, 2, none⟩ = some (.slice Ar ql.length cr) ∧ v.frozen? ⟨pb, 0, none⟩ = false ∧ v.frozen? ⟨pb, 1, none⟩ = false ∧ v.frozen? ⟨pb, 2, none⟩ = false := by
  have h' := h.pure hv
  obtain ⟨⟨c0, c1, c2⟩, f0, f1, f2, _⟩ := cells3 h'.pbx
  obtain ⟨⟨d0, d1, d2⟩, _, _, _, _⟩ := cells3 h'.qbx
  exact ⟨c0, c1, c2, d0, d1, d2, f0, f1, f2⟩
end Stg
/-- A row of the call's own, at blocks beyond a bound, as a row that is read. -/
theorem row_new {w : World} {e : Nat} {F R : Nat → Prop} {A : Option Addr} {n c : Nat} {xs : List Int} (h : intR.own e w F (.slice A n c) xs) (hR : ∀ k, (Value.slice A n c).ownBlock = some k → R k) : intR.row w R A xs := by
  obtain ⟨A', c', he, _, hr⟩ := Rp.own_slice (int_own_fp h)
  simp at he
  obtain ⟨rfl, _, rfl⟩ := he
  exact Rp.row_fp hr hR
set_option maxRecDepth 100000 in
set_option maxHeartbeats 4000000 in
theorem build_seq (nm : ByteArray) (l : List Ex) (HI : ∀ x ∈ l, BuildC x) (hcnt : Ex.cnts l ≤ 199) : BuildC (.mk 2 nm l) := by
  intro w B M F G mb s b0 b1 b2 tv fv vs A Ag c cg g hsl0 hm hr hF hg hG hgl hs hfb
  obtain ⟨s1, s2⟩ := s
  have HII := As.mk HI
  have HM := As.mk hm
  have HR := As.mk hr
  have HF := As.mk hF
  have HG := As.mk hg
  have HGB := As.mk hG
  simp only at hsl0
  have hlb := (hm.low mb hm.mbM)
  have hc1 : (Ex.mk 2 nm l).cnt = 1 + Ex.cnts l := by simp [Ex.cnt]
  rw [hc1] at hs hfb
  simp only at hs hfb
  have hll : l.length ≤ 199 := by
    have h : l.length ≤ Ex.cnts l := by
      clear HII HI HR hr hc1 hs hfb hcnt
      induction l with
      | nil => simp
      | cons x r ih => have := x.cnt_pos; simp only [Ex.cnts, List.length_cons]; omega
    omega
  have HV := As.mk (show glu g (.mk 2 nm l) (s1, s2) = gluSeq g l (s1, s2) ⟨true, [], []⟩ by rw [glu]; rfl)
  have HFB := As.mk (show ∀ x ∈ s2, x.length + 80000 * Ex.cnts l ≤ 1000000000 from fun x hx => by have := hfb x hx; omega)
  have HS := As.mk hsl0
  clear hm hr hF hg hG hfb HI hc1 hsl0
  show Calls Try.prog 35 #[.pointer (some ⟨mb, 0, none⟩), .agg #[.int .i64 2, .string nm, .slice A l.length c], .slice Ag g.length cg] w _
  go_enter Try.func35, Try.ntmps35
  go_wp2
  go_loopg [97] l.length (fun gg i wr => ∃ k : Nat, k + gg = l.length ∧ i = .int .i64 k ∧ As (LoopRel (gluSeq g) (gluSeq g l (s1, s2) ⟨true, [], []⟩) w wr B M mb b0 b1 b2 (s1, s2) (l.drop k) (Ex.cnts (l.take k))))
  case atStart =>
    refine ⟨0, by omega, rfl, ⟨M, tv, fv, vs, (s1, s2), ⟨true, [], []⟩, none, 0, none, 0, rfl, Bd.start _ _, HS.out, HFB.out, HM.out.pure (((Upd.alloc1 _ _ _).alloc _).alloc _), fun _ h => h, fun _ h => .inl h, ?_, ?_, .inl rfl, .inl rfl, ((Upd.alloc1 _ _ _).alloc _).alloc _⟩⟩
    · have := heap_alloc_new ((w.alloc (.cells #[.int .i64 2, .string nm, .slice A l.length c] 24)).alloc (.cells #[.bool false, .slice none 0 0, .slice none 0 0] 67)) (.cells #[.bool true, .slice none 0 0, .slice none 0 0] 67)
      simpa using this
    · exact (Below.heap_alloc _ _ _ (by simp)).trans (heap_alloc2_new w _ _)
  case round =>
    obtain ⟨k, hk, rfl, HC⟩ := hrel
    by_cases hlt : k < l.length
    · obtain ⟨x, hx⟩ : ∃ x, l[k]? = some x := ⟨_, List.getElem?_eq_getElem hlt⟩
      obtain ⟨M', tv', fv', vs', s, ⟨pn, pf, pl⟩, Af, cf, Al, cl, hc, hbd, hlen, hfb2, hm2, hM1, hM2, hpb, hrb, hf2, hl2, hu2⟩ := HC.out
      have hmM := fun k hk => (HM.out.low k hk)
      have hrw := Rp.row_upd HR.out hu2 (fun k _ hF hM => by have := HF.out k hF; have := (hmM k hM).1; omega)
      have hgw := Rp.row_upd HG.out hu2 (fun k _ hF hM => by have := HGB.out k hF; have := (hmM k hM).1; omega)
      obtain ⟨b, o, Ax, cx, rfl, hFb, hbl, d0, d1, d2, hle1, hrow1⟩ := ex_at hrw hx
      obtain ⟨g1, rfl⟩ : ∃ m, gk = m + 1 := ⟨gk - 1, by omega⟩
      have hxm := List.mem_of_getElem? hx
      have hdx := drop_cons' hx
      have hcx : Ex.cnts (l.take (k + 1)) = Ex.cnts (l.take k) + x.cnt := Ex.cnts_succ hx
      have hsum : Ex.cnts (l.take k) + Ex.cnts (l.drop k) = Ex.cnts l := by rw [← Ex.cnts_append, List.take_append_drop]
      have hdc : Ex.cnts (l.drop k) = x.cnt + Ex.cnts (l.drop (k + 1)) := by rw [hdx]; simp [Ex.cnts]
      have hbhi := hbd.hi
      have hbfl := hbd.fl
      have hbll := hbd.ll
      simp only at hbhi hbfl hbll
      have HBC := As.mk (fun (wz : World) (hz : Pure wr wz) => HII.out x hxm wz B M' F G mb s b0 b1 b2 tv' fv' vs' Ax Ag cx cg g hlen (hm2.pure hz) (Rp.row_pure hrow1 hz) HF.out (Rp.row_pure hgw hz) HGB.out hgl (by omega) (fun y hy => by have := hfb2 y hy; omega))
      have hql := glu_bd g x s
      have hqfl := hql.fl
      have hqll := hql.ll
      have HBD := As.mk hbd
      have HQB := As.mk hql
      have HLN := As.mk hlen
      have HFB2 := As.mk hfb2
      have HCC := As.mk hc
      have HM1 := As.mk hM1
      have HM2 := As.mk hM2
      have HPB := As.mk hpb
      have HRB := As.mk hrb
      have HF2 := As.mk hf2
      have HL2 := As.mk hl2
      have HU2 := As.mk hu2
      have HLOW := As.mk (fun k hk => hm2.low k hk)
      have HK := As.mk hk
      have HDX := As.mk hdx
      have HCX := As.mk hcx
      have hprl := (Array.getElem?_eq_some_iff.1 hpb).1
      clear hbd hql hlen hfb2 hc hM1 hM2 hpb hrb hf2 hl2 hu2 hm2 hrw hgw hrow1 hx hk hdx hcx HC hmM
      go_wp2_with (go_at_call 35; refine (HBC.out _ (Upd.alloc1 _ _ _)).mono ?_; rintro e w1 ⟨Aq, cq, Ar, cr, M1, tv1, fv1, vs1, rfl, hm1, hg1, hqf, hql, hu1⟩; have HMM := As.mk hm1; have HGG := As.mk hg1; have HQF := As.mk hqf; have HQL := As.mk hql; have HU1 := As.mk hu1; clear hm1 hg1 hqf hql hu1; apply As.out)
      refine ⟨?_⟩
      have hlow0 := HM.out.low mb HM.out.mbM
      have hw01 := HU2.out.size
      have hw12 : wr.heap.size + 1 ≤ w1.heap.size := by have := HU1.out.size; simpa using this
      have hnpM : ¬ M' (w.heap.size + 2) := fun h => by rcases HM2.out _ h with h | h; (have := (HM.out.low _ h).2; omega); omega
      have hnrM : ¬ M' (w.heap.size + 1) := fun h => by rcases HM2.out _ h with h | h; (have := (HM.out.low _ h).2; omega); omega
      have HU01 : As (Upd M' wr w1) := ⟨Upd.trans (Upd.alloc1 M' wr _) HU1.out (fun _ _ h => h)⟩
      have hpb : w1.heap[w.heap.size + 2]? = some (.cells #[.bool pn, .slice Af pf.length cf, .slice Al pl.length cl] 67 (0, 0)) := (HU01.out.block _ hprl hnpM).trans HPB.out
      have hrb : w1.heap[w.heap.size + 1]? = some (.cells #[.bool false, .slice none 0 0, .slice none 0 0] 67 (0, 0)) := (HU01.out.block _ (by omega) hnrM).trans HRB.out
      have HPf := As.mk (Rp.row_upd (Rp.row_move (G := fun q => (w.heap.size + 3 ≤ q ∧ ¬ M' q) ∧ q < wr.heap.size) (fun q hq hl => ⟨⟨hq, hl⟩, hl, rfl⟩) HF2.out) HU01.out (fun _ _ h => h.1.2))
      have HPl := As.mk (Rp.row_upd (Rp.row_move (G := fun q => (w.heap.size + 3 ≤ q ∧ ¬ M' q) ∧ q < wr.heap.size) (fun q hq hl => ⟨⟨hq, hl⟩, hl, rfl⟩) HL2.out) HU01.out (fun _ _ h => h.1.2))
      have HQf := As.mk (Rp.row_move (G := fun q => ((wr.alloc (.cells #[.int .i64 x.k, .string x.name, .slice Ax x.l.length cx] 24)).heap.size ≤ q ∧ ¬ M1 q) ∧ q < w1.heap.size) (fun q hq hl => ⟨⟨hq, hl⟩, hl, rfl⟩) HQF.out)
      have HQl := As.mk (Rp.row_move (G := fun q => ((wr.alloc (.cells #[.int .i64 x.k, .string x.name, .slice Ax x.l.length cx] 24)).heap.size ≤ q ∧ ¬ M1 q) ∧ q < w1.heap.size) (fun q hq hl => ⟨⟨hq, hl⟩, hl, rfl⟩) HQL.out)
      have hal : (wr.alloc (.cells #[.int .i64 x.k, .string x.name, .slice Ax x.l.length cx] 24)).heap.size = wr.heap.size + 1 := by simp
      have HM12 : As (∀ q, M1 q → M q ∨ w.heap.size + 3 ≤ q) := ⟨fun q hq => by
        rcases HGG.out.2 q hq with h | h
        · exact HM2.out q h
        · have h1 := h.1
          omega⟩
      have HPBM : As (¬ M1 (w.heap.size + 2)) := ⟨fun h => by rcases HM12.out _ h with h | h; (have := (HM.out.low _ h).2; omega); omega⟩
      have HRBM : As (¬ M1 (w.heap.size + 1)) := ⟨fun h => by rcases HM12.out _ h with h | h; (have := (HM.out.low _ h).2; omega); omega⟩
      have HPB0 := As.mk hpb
      have HRB0 := As.mk hrb
      obtain ⟨⟨pc0, pc1, pc2⟩, pg0, pg1, pg2, pl3⟩ := cells3 hpb
      have HFJ := As.mk (fun (y : List Int) (hy : y ∈ (glu g x s).1.2) => glu_fb g x s (1000000000 - 80000 * Ex.cnts (l.drop k)) (fun z hz => by have := HFB2.out z hz; omega) (by omega) y hy)
      have hqlen := HQB.out.len HLN.out
      have hqhi := HQB.out.hi
      have hqlo := HQB.out.lo
      have HRNG := As.mk (fun (a : Int) (ha : a ∈ pl) => show 0 ≤ a ∧ a < ((glu g x s).1.2.length : Int) by have h1 := HBD.out.last a ha; omega)
      clear hpb hrb
      have HJ := As.mk (join_calls (cl := cl) (cf := cq) (HMM.out.pure (Upd.alloc1 (fun _ => False) w1 (.cells #[.bool (glu g x s).2.none, .slice Aq (glu g x s).2.first.length cq, .slice Ar (glu g x s).2.last.length cr] 67))) (Rp.row_pure HPl.out (Upd.alloc1 (fun _ => False) w1 _)) (Rp.row_pure HQf.out (Upd.alloc1 (fun _ => False) w1 _))
        (fun q hq _ hM => by rcases HGG.out.2 q hM with h | h; exact hq.1.2 h; have := h.1; omega) (fun q hq _ hM => hq.1.2 hM) HRNG.out (by omega) (by omega) (by omega) (fun y hy => by have := HFJ.out y hy; omega))
      go_wp2_with (go_at_call 49; refine HJ.out.mono ?_; rintro e w2 ⟨rfl, M2, fv2, vs2, hm2, hg2, hu2⟩; have HMJ := As.mk hm2; have HGJ := As.mk hg2; have HUJ := As.mk hu2; clear hm2 hg2 hu2; apply As.out)
      refine ⟨?_⟩
      have hw23 : w1.heap.size + 1 ≤ w2.heap.size := by have := HUJ.out.size; simpa using this
      have hal2 : (w1.alloc (.cells #[.bool (glu g x s).2.none, .slice Aq (glu g x s).2.first.length cq, .slice Ar (glu g x s).2.last.length cr] 67)).heap.size = w1.heap.size + 1 := by simp
      have HM1R : As (∀ q, M2 q → M1 q ∨ w1.heap.size + 1 ≤ q) := ⟨fun q hq => by
        rcases HGJ.out.2 q hq with h | h
        · exact .inl h
        · exact .inr (by have := h.1; omega)⟩
      have hm1lt := fun q (hq : M1 q) => (HMM.out.low q hq).2
      have hstg : Stg w2 w2 (fun q => w.heap.size + 3 ≤ q ∧ ¬ M2 q) (w.heap.size + 2) w1.heap.size pn pf pl Af cf Al cl (glu g x s).2.none (glu g x s).2.first (glu g x s).2.last Aq cq Ar cr := by
        refine ⟨Upd.refl _ _, ?_, ?_, by omega, ?_, ?_, ?_, ?_, fun h => by omega⟩
        · exact (HUJ.out.block _ (by omega) HPBM.out).trans ((Below.heap_alloc _ _ _ pl3).trans HPB0.out)
        · exact (HUJ.out.block _ (by omega) (fun h => by have := hm1lt _ h; omega)).trans (heap_alloc_new w1 _)
        · exact Rp.row_fp (Rp.row_upd (Rp.row_pure HPf.out (Upd.alloc1 (fun _ => False) w1 _)) HUJ.out (fun q _ hq hM => by rcases HGG.out.2 q hM with h | h; exact hq.1.2 h; have := h.1; omega)) (fun q hq => ⟨hq.1.1, fun hM => by
            rcases HM1R.out q hM with h | h
            · rcases HGG.out.2 q h with h | h
              · exact hq.1.2 h
              · have := h.1; omega
            · omega⟩)
        · exact Rp.row_fp (Rp.row_upd (Rp.row_pure HPl.out (Upd.alloc1 (fun _ => False) w1 _)) HUJ.out (fun q _ hq hM => by rcases HGG.out.2 q hM with h | h; exact hq.1.2 h; have := h.1; omega)) (fun q hq => ⟨hq.1.1, fun hM => by
            rcases HM1R.out q hM with h | h
            · rcases HGG.out.2 q h with h | h
              · exact hq.1.2 h
              · have := h.1; omega
            · omega⟩)
        · exact Rp.row_fp (Rp.row_upd (Rp.row_pure HQf.out (Upd.alloc1 (fun _ => False) w1 _)) HUJ.out (fun q _ hq hM => hq.1.2 hM)) (fun q hq => ⟨by have := hq.1.1; omega, fun hM => by
            rcases HM1R.out q hM with h | h
            · exact hq.1.2 h
            · omega⟩)
        · exact Rp.row_fp (Rp.row_upd (Rp.row_pure HQl.out (Upd.alloc1 (fun _ => False) w1 _)) HUJ.out (fun q _ hq hM => hq.1.2 hM)) (fun q hq => ⟨by have := hq.1.1; omega, fun hM => by
            rcases HM1R.out q hM with h | h
            · exact hq.1.2 h
            · omega⟩)
      have HFIN : As (∀ V pn' pf' pl' Af' cf' Al' cl', Stg w2 V (fun q => w.heap.size + 3 ≤ q ∧ ¬ M2 q) (w.heap.size + 2) w1.heap.size pn' pf' pl' Af' cf' Al' cl' (glu g x s).2.none (glu g x s).2.first (glu g x s).2.last Aq cq Ar cr → pn' = (pn && (glu g x s).2.none) → pf' = (if pn = true then pf ++ (glu g x s).2.first else pf) → pl' = (if (glu g x s).2.none = true then pl ++ (glu g x s).2.last else (glu g x s).2.last) →
          LoopRel (gluSeq g) (gluSeq g l (s1, s2) ⟨true, [], []⟩) w V B M mb b0 b1 b2 (s1, s2) (l.drop (k + 1)) (Ex.cnts (l.take (k + 1)))) := ⟨by
        intro V pn' pf' pl' Af' cf' Al' cl' hS e1 e2 e3
        have hMJ := HMJ.out
        refine ⟨M2, tv1, fv2, vs2, ((glu g x s).1.1, joinF (glu g x s).1.2 pl (glu g x s).2.first), ⟨pn', pf', pl'⟩, Af', cf', Al', cl', ?_, ?_, ?_, ?_, ?_, fun q hq => HGJ.out.1 q (HGG.out.1 q (HM1.out q hq)), ?_, hS.pbx, ?_, hS.rf, hS.rl, ?_⟩
        · rw [← HCC.out, HDX.out, gluSeq, e1, e2, e3]
        · rw [HCX.out]
          exact Bd.next HBD.out HQB.out ((glu g x s).1.1, joinF (glu g x s).1.2 pl (glu g x s).2.first) rfl (joinF_len _ _ _) _ ⟨fun a ha => mem_ite_l (by simpa [e2] using ha), fun a ha => mem_ite_r (by simpa [e3] using ha), by simp only [e2]; exact len_ite_l, by simp only [e3]; exact len_ite_r⟩
        · simp only [joinF_len]
          exact hqlen
        · intro y hy
          have := joinF_bound (b := 1000000000 - 80000 * Ex.cnts (l.drop (k + 1)) - 40000) (fun z hz => by have := HFJ.out z hz; omega) y hy
          have h6 : pl.length * (glu g x s).2.first.length ≤ 200 * 200 := Nat.mul_le_mul (by omega) (by omega)
          omega
        · exact hMJ.upd hS.upd (fun q _ hq => by subst hq; exact ⟨by omega, fun hM => by rcases HM1R.out _ hM with h | h; exact HPBM.out h; omega⟩)
        · intro q hq
          rcases HM1R.out q hq with h | h
          · exact HM12.out q h
          · exact .inr (by omega)
        · exact (hS.upd.block _ (by omega) (by omega)).trans ((HUJ.out.block _ (by omega) HRBM.out).trans ((Below.heap_alloc _ _ _ (by omega)).trans HRB0.out))
        · have u1 : Upd (fun q => M1 q ∨ q = w.heap.size + 2) w1 V := Upd.trans (S := fun q => M1 q ∨ q = w.heap.size + 2) (S' := fun q => M1 q ∨ q = w.heap.size + 2) (Upd.alloc1 _ w1 _) (Upd.trans (S := fun q => M1 q ∨ q = w.heap.size + 2) (S' := fun q => q = w.heap.size + 2) (HUJ.out.mono (fun _ _ h => .inl h)) hS.upd (fun _ _ h => .inr h)) (fun _ _ h => h)
          have u2 : Upd (fun q => M' q ∨ q = w.heap.size + 2 ∨ wr.heap.size ≤ q) wr V := Upd.trans (HU01.out.mono (fun _ _ h => .inl h)) u1 (fun q hq h => by
            rcases h with h | h
            · rcases HGG.out.2 q h with h | h
              · exact .inl h
              · exact .inr (.inr (by have := h.1; omega))
            · exact .inr (.inl h))
          refine Upd.trans HU2.out u2 (fun q hq h => ?_)
          rcases h with h | h | h
          · rcases HM2.out q h with h | h
            · exact h
            · omega
          · omega
          · omega⟩
      have HST := As.mk hstg
      have hM2low : ∀ q, M2 q → q < w2.heap.size := fun q hq => (HMJ.out.low q hq).2
      clear hstg HMJ HGJ HUJ HJ HM1R pc0 pc1 pc2 pg0 pg1 pg2 pl3 hm1lt HRNG HFJ HPB0 HRB0 HPBM HRBM HM12 HPf HPl HQf HQl HU01 HQF HQL HMM HGG HU1 HF2 HL2 HPB HRB HU2 HM1 HM2 HLOW HBD HQB HLN HFB2 HCC HDX HCX HBC hnpM hnrM hal hal2
      have HM2L := As.mk (fun q (hq : M2 q) => (hM2low q hq))
      clear hM2low
      generalize hqn : (glu g x s).2.none = qn at *
      cases pn
      · cases qn
        · obtain ⟨c0, c1, c2, d0, d1, d2, f0, f1, f2⟩ := HST.out.cells (Upd.refl (fun _ => False) _)
          go_wp2
          go_roundg g1
          case measure => omega
          case rel =>
            rw [(show w.heap.size + 1 + 1 = w.heap.size + 2 from rfl)]
            exact ⟨k + 1, by have := HK.out; omega, by go_num, ⟨HFIN.out _ _ _ _ _ _ _ _ (((HST.out).last (c3 := cr) (HST.out.rql)).noneB false) (by simp) (by simp) (by simp)⟩⟩
        · obtain ⟨c0, c1, c2, d0, d1, d2, f0, f1, f2⟩ := HST.out.cells (Upd.refl (fun _ => False) _)
          go_wp2
          clear c0 c1 c2 d0 d1 d2 f0 f1 f2
          have HSd := As.mk (HST.out.pure ((Upd.refl (fun _ => False) _).drew))
          have hvs : w2.heap.size ≤ w2.heap.size := HST.out.upd.size
          refine wp_region_T (P := Try.prog) (fun v => v.cell? ⟨w.heap.size + 2, 0, none⟩ = some (.bool false) ∧ v.cell? ⟨w.heap.size + 2, 1, none⟩ = some (.slice Af (pf).length cf) ∧ v.cell? ⟨w.heap.size + 2, 2, none⟩ = some (.slice Al (pl).length cl) ∧ v.cell? ⟨w1.heap.size, 0, none⟩ = some (.bool true) ∧ v.cell? ⟨w1.heap.size, 1, none⟩ = some (.slice Aq (glu g x s).2.first.length cq) ∧ v.cell? ⟨w1.heap.size, 2, none⟩ = some (.slice Ar (glu g x s).2.last.length cr) ∧ v.frozen? ⟨w.heap.size + 2, 0, none⟩ = false ∧ v.frozen? ⟨w.heap.size + 2, 1, none⟩ = false ∧ v.frozen? ⟨w.heap.size + 2, 2, none⟩ = false) 7 (by kernel_rfl) ?_ (fun hHeld => ?_)
          · first | exact HSd.out.cells HP4.out | exact HSd.out.cells HP3.out | exact HSd.out.cells (Upd.refl _ _)
          refine wpAnyT_take (i := 0) (oi := { dst := (some 122), op := (Go.Op.fieldAddr 67 (Go.Operand.tmp 12) 2), type := 0, pos := "reg.go:96", after := #[], guard := none }) (v := ?_) rfl (by kernel_rfl) (by kernel_rfl) (by kernel_rfl) (by kernel_rfl) (fun _ _ _ h => h) (Or.inl ⟨by rfl, (by intro w hSw; (try dsimp only at hSw); go_simp; try with_reducible rfl)⟩) (by assumption) ?_
          (try simp only [Act.put, List.setIfInBounds_toArray, List.set_cons_zero, List.set_cons_succ])
          refine wpAnyT_take (i := 1) (oi := { dst := (some 123), op := (Go.Op.load 26 (Go.Operand.tmp 122)), type := 26, pos := "reg.go:96", after := #[{ on := 0, ground := Go.Ground.data }], guard := none }) (v := ?_) rfl (by kernel_rfl) (by kernel_rfl) (by kernel_rfl) (by kernel_rfl) (fun _ _ _ h => h) (Or.inl ⟨by rfl, (by intro w hSw; (try dsimp only at hSw); go_simp; try with_reducible rfl)⟩) (by assumption) ?_
          (try simp only [Act.put, List.setIfInBounds_toArray, List.set_cons_zero, List.set_cons_succ])
          refine wpAnyT_take (i := 3) (oi := { dst := (some 125), op := (Go.Op.fieldAddr 67 (Go.Operand.tmp 15) 2), type := 0, pos := "reg.go:96", after := #[], guard := none }) (v := ?_) rfl (by kernel_rfl) (by kernel_rfl) (by kernel_rfl) (by kernel_rfl) (fun _ _ _ h => h) (Or.inl ⟨by rfl, (by intro w hSw; (try dsimp only at hSw); go_simp; try with_reducible rfl)⟩) (by assumption) ?_
          (try simp only [Act.put, List.setIfInBounds_toArray, List.set_cons_zero, List.set_cons_succ])
          refine wpAnyT_take (i := 4) (oi := { dst := (some 126), op := (Go.Op.load 26 (Go.Operand.tmp 125)), type := 26, pos := "reg.go:96", after := #[{ on := 3, ground := Go.Ground.data }], guard := none }) (v := ?_) rfl (by kernel_rfl) (by kernel_rfl) (by kernel_rfl) (by kernel_rfl) (fun _ _ _ h => h) (Or.inl ⟨by rfl, (by intro w hSw; (try dsimp only at hSw); go_simp; try with_reducible rfl)⟩) (by assumption) ?_
          (try simp only [Act.put, List.setIfInBounds_toArray, List.set_cons_zero, List.set_cons_succ])
          refine wpAnyT_one (i := 2) (o := { dst := (some 124), op := (Go.Op.call { callee := (Go.Callee.value (Go.Operand.func 48)), args := #[(Go.Operand.tmp 123)], argTypes := #[26] }), type := 26, pos := "reg.go:96", after := #[{ on := 1, ground := Go.Ground.data }], guard := none }) (by kernel_rfl) rfl (fun K hK => ?_)
          go_simp
          (go_at_call 48; refine (Clone_calls HSd.out.rl (by (try simp only [List.length_append]); omega)).mono ?_; rintro e w3 ⟨v3, rfl, ho3, hu3⟩; obtain ⟨A3, c3, rfl, _, _⟩ := Rp.own_slice ho3; have HO3 := As.mk ho3; have HP3 := As.mk hu3; clear ho3 hu3)
          refine hK.out _ _ (fun _ => by first | exact HSd.out.cells HP4.out | exact HSd.out.cells HP3.out | exact HSd.out.cells (Upd.refl _ _)) (fun hHeld => ?_)
          replace hHeld := hHeld (by decide)
          clear hK K
          (try simp only [Act.put, List.setIfInBounds_toArray, List.set_cons_zero, List.set_cons_succ])
          refine wpAnyT_one (i := 5) (o := { dst := (some 127), op := (Go.Op.call { callee := (Go.Callee.builtin Go.Builtin.append), args := #[(Go.Operand.tmp 124), (Go.Operand.tmp 126)], argTypes := #[26, 26] }), type := 26, pos := "reg.go:96", after := #[{ on := 2, ground := Go.Ground.data }, { on := 4, ground := Go.Ground.data }, { on := 2, ground := Go.Ground.chain }], guard := none }) (by kernel_rfl) rfl (fun K hK => ?_)
          refine Rp.step_append_row intR (c := cr) HO3.out (Rp.row'_of (HSd.out.pure HP3.out).rql (fun _ _ h => h)) (Fz := fun _ => False) (fun _ h => h.elim) (by rfl) _ _ 26 (.int .i64 0) 8 (by rfl) Try.underlying26 int_info rfl (by decide) (by decide) (by rfl) (by rfl) (by (try simp only [List.length_append]); omega) ?_; intro v4 w4 ho4 hu4 hat4; obtain ⟨AV2, cV2, rfl, _, _⟩ := Rp.own_slice ho4; have HP4 := As.mk (show Pure w2.drew w4 from Upd.trans HP3.out hu4 (fun k hk h => by have := (Rp.own_block_lt HO3.out k h).1; omega)); have HO4 := As.mk (int_own_fp' (G := fun k => w2.heap.size ≤ k) ho4 (fun k hk => by rcases hat4 with h | ⟨b, hb, hle⟩; exact (Rp.own_block_lt HO3.out k (h ▸ hk)).1; rw [hb] at hk; injection hk with hk; have h9 : w2.heap.size ≤ w3.heap.size := HP3.out.size; omega)); clear ho4 hu4 hat4
          refine hK.out _ _ (fun _ => by first | exact HSd.out.cells HP4.out | exact HSd.out.cells HP3.out | exact HSd.out.cells (Upd.refl _ _)) (fun hHeld => ?_)
          replace hHeld := hHeld (by decide)
          clear hK K
          (try simp only [Act.put, List.setIfInBounds_toArray, List.set_cons_zero, List.set_cons_succ])
          refine wpAnyT_take (i := 6) (oi := { dst := (some 128), op := (Go.Op.fieldAddr 67 (Go.Operand.tmp 12) 2), type := 0, pos := "reg.go:96", after := #[{ on := 0, ground := Go.Ground.phase }, { on := 1, ground := Go.Ground.phase }, { on := 2, ground := Go.Ground.phase }, { on := 3, ground := Go.Ground.phase }, { on := 4, ground := Go.Ground.phase }, { on := 5, ground := Go.Ground.phase }], guard := none }) (v := ?_) rfl (by kernel_rfl) (by kernel_rfl) (by kernel_rfl) (by kernel_rfl) (fun _ _ _ h => h) (Or.inl ⟨by rfl, (by intro w hSw; (try dsimp only at hSw); go_simp; try with_reducible rfl)⟩) (by assumption) ?_
          (try simp only [Act.put, List.setIfInBounds_toArray, List.set_cons_zero, List.set_cons_succ])
          refine wpAnyT_one (i := 7) (o := { dst := none, op := (Go.Op.store 26 (Go.Operand.tmp 128) (Go.Operand.tmp 127)), type := 0, pos := "reg.go:96", after := #[{ on := 6, ground := Go.Ground.data }, { on := 5, ground := Go.Ground.data }, { on := 5, ground := Go.Ground.chain }, { on := 0, ground := Go.Ground.phase }, { on := 1, ground := Go.Ground.phase }, { on := 2, ground := Go.Ground.phase }, { on := 3, ground := Go.Ground.phase }, { on := 4, ground := Go.Ground.phase }, { on := 5, ground := Go.Ground.phase }], guard := none }) (by kernel_rfl) rfl (fun K hK => ?_)
          go_simp
          refine hK.out _ _ (fun h => absurd rfl h) (fun hHeld => ?_)
          clear hK K
          (try simp only [Act.put, List.setIfInBounds_toArray, List.set_cons_zero, List.set_cons_succ])
          refine wpAnyT_done (by kernel_rfl) ?_ _
          rw [(show w.heap.size + 1 + 1 = w.heap.size + 2 from rfl)]
          replace HST := As.mk ((HSd.out.pure HP4.out).last (c3 := cV2) (row_new (R := fun q => w.heap.size + 3 ≤ q ∧ ¬ M2 q) HO4.out (fun k hk => by have h8 := (Rp.own_block_lt HO4.out k hk).1; exact ⟨by omega, fun hM => by have := HM2L.out k hM; omega⟩)))
          rw [show ((pl) ++ (glu g x s).2.last).length = (pl).length + (glu g x s).2.last.length from List.length_append] at HST
          generalize w4.setCell ⟨w.heap.size + 2, 2, none⟩ (.slice AV2 ((pl).length + (glu g x s).2.last.length) cV2) = V2 at *
          clear HSd HP3 HO3 HP4 HO4 hvs
          obtain ⟨c0, c1, c2, d0, d1, d2, f0, f1, f2⟩ := HST.out.cells (Upd.refl (fun _ => False) _)
          go_wp2
          go_roundg g1
          case measure => omega
          case rel =>
            rw [(show w.heap.size + 1 + 1 = w.heap.size + 2 from rfl)]
            exact ⟨k + 1, by have := HK.out; omega, by go_num, ⟨HFIN.out _ _ _ _ _ _ _ _ ((HST.out).noneB (false)) (by simp) (by simp) (by simp)⟩⟩
      · cases qn
        · obtain ⟨c0, c1, c2, d0, d1, d2, f0, f1, f2⟩ := HST.out.cells (Upd.refl (fun _ => False) _)
          go_wp2
          clear c0 c1 c2 d0 d1 d2 f0 f1 f2
          have HSd := As.mk (HST.out.pure ((Upd.refl (fun _ => False) _).drew))
          have hvs : w2.heap.size ≤ w2.heap.size := HST.out.upd.size
          refine wp_region_T (P := Try.prog) (fun v => v.cell? ⟨w.heap.size + 2, 0, none⟩ = some (.bool true) ∧ v.cell? ⟨w.heap.size + 2, 1, none⟩ = some (.slice Af (pf).length cf) ∧ v.cell? ⟨w.heap.size + 2, 2, none⟩ = some (.slice Al (pl).length cl) ∧ v.cell? ⟨w1.heap.size, 0, none⟩ = some (.bool false) ∧ v.cell? ⟨w1.heap.size, 1, none⟩ = some (.slice Aq (glu g x s).2.first.length cq) ∧ v.cell? ⟨w1.heap.size, 2, none⟩ = some (.slice Ar (glu g x s).2.last.length cr) ∧ v.frozen? ⟨w.heap.size + 2, 0, none⟩ = false ∧ v.frozen? ⟨w.heap.size + 2, 1, none⟩ = false ∧ v.frozen? ⟨w.heap.size + 2, 2, none⟩ = false) 7 (by kernel_rfl) ?_ (fun hHeld => ?_)
          · first | exact HSd.out.cells HP4.out | exact HSd.out.cells HP3.out | exact HSd.out.cells (Upd.refl _ _)
          refine wpAnyT_take (i := 0) (oi := { dst := (some 113), op := (Go.Op.fieldAddr 67 (Go.Operand.tmp 12) 1), type := 0, pos := "reg.go:93", after := #[], guard := none }) (v := ?_) rfl (by kernel_rfl) (by kernel_rfl) (by kernel_rfl) (by kernel_rfl) (fun _ _ _ h => h) (Or.inl ⟨by rfl, (by intro w hSw; (try dsimp only at hSw); go_simp; try with_reducible rfl)⟩) (by assumption) ?_
          (try simp only [Act.put, List.setIfInBounds_toArray, List.set_cons_zero, List.set_cons_succ])
          refine wpAnyT_take (i := 1) (oi := { dst := (some 114), op := (Go.Op.load 26 (Go.Operand.tmp 113)), type := 26, pos := "reg.go:93", after := #[{ on := 0, ground := Go.Ground.data }], guard := none }) (v := ?_) rfl (by kernel_rfl) (by kernel_rfl) (by kernel_rfl) (by kernel_rfl) (fun _ _ _ h => h) (Or.inl ⟨by rfl, (by intro w hSw; (try dsimp only at hSw); go_simp; try with_reducible rfl)⟩) (by assumption) ?_
          (try simp only [Act.put, List.setIfInBounds_toArray, List.set_cons_zero, List.set_cons_succ])
          refine wpAnyT_take (i := 3) (oi := { dst := (some 116), op := (Go.Op.fieldAddr 67 (Go.Operand.tmp 15) 1), type := 0, pos := "reg.go:93", after := #[], guard := none }) (v := ?_) rfl (by kernel_rfl) (by kernel_rfl) (by kernel_rfl) (by kernel_rfl) (fun _ _ _ h => h) (Or.inl ⟨by rfl, (by intro w hSw; (try dsimp only at hSw); go_simp; try with_reducible rfl)⟩) (by assumption) ?_
          (try simp only [Act.put, List.setIfInBounds_toArray, List.set_cons_zero, List.set_cons_succ])
          refine wpAnyT_take (i := 4) (oi := { dst := (some 117), op := (Go.Op.load 26 (Go.Operand.tmp 116)), type := 26, pos := "reg.go:93", after := #[{ on := 3, ground := Go.Ground.data }], guard := none }) (v := ?_) rfl (by kernel_rfl) (by kernel_rfl) (by kernel_rfl) (by kernel_rfl) (fun _ _ _ h => h) (Or.inl ⟨by rfl, (by intro w hSw; (try dsimp only at hSw); go_simp; try with_reducible rfl)⟩) (by assumption) ?_
          (try simp only [Act.put, List.setIfInBounds_toArray, List.set_cons_zero, List.set_cons_succ])
          refine wpAnyT_one (i := 2) (o := { dst := (some 115), op := (Go.Op.call { callee := (Go.Callee.value (Go.Operand.func 48)), args := #[(Go.Operand.tmp 114)], argTypes := #[26] }), type := 26, pos := "reg.go:93", after := #[{ on := 1, ground := Go.Ground.data }], guard := none }) (by kernel_rfl) rfl (fun K hK => ?_)
          go_simp
          (go_at_call 48; refine (Clone_calls HSd.out.rf (by (try simp only [List.length_append]); omega)).mono ?_; rintro e w3 ⟨v3, rfl, ho3, hu3⟩; obtain ⟨A3, c3, rfl, _, _⟩ := Rp.own_slice ho3; have HO3 := As.mk ho3; have HP3 := As.mk hu3; clear ho3 hu3)
          refine hK.out _ _ (fun _ => by first | exact HSd.out.cells HP4.out | exact HSd.out.cells HP3.out | exact HSd.out.cells (Upd.refl _ _)) (fun hHeld => ?_)
          replace hHeld := hHeld (by decide)
          clear hK K
          (try simp only [Act.put, List.setIfInBounds_toArray, List.set_cons_zero, List.set_cons_succ])
          refine wpAnyT_one (i := 5) (o := { dst := (some 118), op := (Go.Op.call { callee := (Go.Callee.builtin Go.Builtin.append), args := #[(Go.Operand.tmp 115), (Go.Operand.tmp 117)], argTypes := #[26, 26] }), type := 26, pos := "reg.go:93", after := #[{ on := 2, ground := Go.Ground.data }, { on := 4, ground := Go.Ground.data }, { on := 2, ground := Go.Ground.chain }], guard := none }) (by kernel_rfl) rfl (fun K hK => ?_)
          refine Rp.step_append_row intR (c := cq) HO3.out (Rp.row'_of (HSd.out.pure HP3.out).rqf (fun _ _ h => h)) (Fz := fun _ => False) (fun _ h => h.elim) (by rfl) _ _ 26 (.int .i64 0) 8 (by rfl) Try.underlying26 int_info rfl (by decide) (by decide) (by rfl) (by rfl) (by (try simp only [List.length_append]); omega) ?_; intro v4 w4 ho4 hu4 hat4; obtain ⟨AV1, cV1, rfl, _, _⟩ := Rp.own_slice ho4; have HP4 := As.mk (show Pure w2.drew w4 from Upd.trans HP3.out hu4 (fun k hk h => by have := (Rp.own_block_lt HO3.out k h).1; omega)); have HO4 := As.mk (int_own_fp' (G := fun k => w2.heap.size ≤ k) ho4 (fun k hk => by rcases hat4 with h | ⟨b, hb, hle⟩; exact (Rp.own_block_lt HO3.out k (h ▸ hk)).1; rw [hb] at hk; injection hk with hk; have h9 : w2.heap.size ≤ w3.heap.size := HP3.out.size; omega)); clear ho4 hu4 hat4
          refine hK.out _ _ (fun _ => by first | exact HSd.out.cells HP4.out | exact HSd.out.cells HP3.out | exact HSd.out.cells (Upd.refl _ _)) (fun hHeld => ?_)
          replace hHeld := hHeld (by decide)
          clear hK K
          (try simp only [Act.put, List.setIfInBounds_toArray, List.set_cons_zero, List.set_cons_succ])
          refine wpAnyT_take (i := 6) (oi := { dst := (some 119), op := (Go.Op.fieldAddr 67 (Go.Operand.tmp 12) 1), type := 0, pos := "reg.go:93", after := #[{ on := 0, ground := Go.Ground.phase }, { on := 1, ground := Go.Ground.phase }, { on := 2, ground := Go.Ground.phase }, { on := 3, ground := Go.Ground.phase }, { on := 4, ground := Go.Ground.phase }, { on := 5, ground := Go.Ground.phase }], guard := none }) (v := ?_) rfl (by kernel_rfl) (by kernel_rfl) (by kernel_rfl) (by kernel_rfl) (fun _ _ _ h => h) (Or.inl ⟨by rfl, (by intro w hSw; (try dsimp only at hSw); go_simp; try with_reducible rfl)⟩) (by assumption) ?_
          (try simp only [Act.put, List.setIfInBounds_toArray, List.set_cons_zero, List.set_cons_succ])
          refine wpAnyT_one (i := 7) (o := { dst := none, op := (Go.Op.store 26 (Go.Operand.tmp 119) (Go.Operand.tmp 118)), type := 0, pos := "reg.go:93", after := #[{ on := 6, ground := Go.Ground.data }, { on := 5, ground := Go.Ground.data }, { on := 5, ground := Go.Ground.chain }, { on := 0, ground := Go.Ground.phase }, { on := 1, ground := Go.Ground.phase }, { on := 2, ground := Go.Ground.phase }, { on := 3, ground := Go.Ground.phase }, { on := 4, ground := Go.Ground.phase }, { on := 5, ground := Go.Ground.phase }], guard := none }) (by kernel_rfl) rfl (fun K hK => ?_)
          go_simp
          refine hK.out _ _ (fun h => absurd rfl h) (fun hHeld => ?_)
          clear hK K
          (try simp only [Act.put, List.setIfInBounds_toArray, List.set_cons_zero, List.set_cons_succ])
          refine wpAnyT_done (by kernel_rfl) ?_ _
          rw [(show w.heap.size + 1 + 1 = w.heap.size + 2 from rfl)]
          replace HST := As.mk ((HSd.out.pure HP4.out).first (c3 := cV1) (row_new (R := fun q => w.heap.size + 3 ≤ q ∧ ¬ M2 q) HO4.out (fun k hk => by have h8 := (Rp.own_block_lt HO4.out k hk).1; exact ⟨by omega, fun hM => by have := HM2L.out k hM; omega⟩)))
          rw [show ((pf) ++ (glu g x s).2.first).length = (pf).length + (glu g x s).2.first.length from List.length_append] at HST
          generalize w4.setCell ⟨w.heap.size + 2, 1, none⟩ (.slice AV1 ((pf).length + (glu g x s).2.first.length) cV1) = V1 at *
          clear HSd HP3 HO3 HP4 HO4 hvs
          obtain ⟨c0, c1, c2, d0, d1, d2, f0, f1, f2⟩ := HST.out.cells (Upd.refl (fun _ => False) _)
          go_wp2
          go_roundg g1
          case measure => omega
          case rel =>
            rw [(show w.heap.size + 1 + 1 = w.heap.size + 2 from rfl)]
            exact ⟨k + 1, by have := HK.out; omega, by go_num, ⟨HFIN.out _ _ _ _ _ _ _ _ (((HST.out).last (c3 := cr) (HST.out.rql)).noneB false) (by simp) (by simp) (by simp)⟩⟩
        · obtain ⟨c0, c1, c2, d0, d1, d2, f0, f1, f2⟩ := HST.out.cells (Upd.refl (fun _ => False) _)
          go_wp2
          clear c0 c1 c2 d0 d1 d2 f0 f1 f2
          have HSd := As.mk (HST.out.pure ((Upd.refl (fun _ => False) _).drew))
          have hvs : w2.heap.size ≤ w2.heap.size := HST.out.upd.size
          refine wp_region_T (P := Try.prog) (fun v => v.cell? ⟨w.heap.size + 2, 0, none⟩ = some (.bool true) ∧ v.cell? ⟨w.heap.size + 2, 1, none⟩ = some (.slice Af (pf).length cf) ∧ v.cell? ⟨w.heap.size + 2, 2, none⟩ = some (.slice Al (pl).length cl) ∧ v.cell? ⟨w1.heap.size, 0, none⟩ = some (.bool true) ∧ v.cell? ⟨w1.heap.size, 1, none⟩ = some (.slice Aq (glu g x s).2.first.length cq) ∧ v.cell? ⟨w1.heap.size, 2, none⟩ = some (.slice Ar (glu g x s).2.last.length cr) ∧ v.frozen? ⟨w.heap.size + 2, 0, none⟩ = false ∧ v.frozen? ⟨w.heap.size + 2, 1, none⟩ = false ∧ v.frozen? ⟨w.heap.size + 2, 2, none⟩ = false) 7 (by kernel_rfl) ?_ (fun hHeld => ?_)
          · first | exact HSd.out.cells HP4.out | exact HSd.out.cells HP3.out | exact HSd.out.cells (Upd.refl _ _)
          refine wpAnyT_take (i := 0) (oi := { dst := (some 113), op := (Go.Op.fieldAddr 67 (Go.Operand.tmp 12) 1), type := 0, pos := "reg.go:93", after := #[], guard := none }) (v := ?_) rfl (by kernel_rfl) (by kernel_rfl) (by kernel_rfl) (by kernel_rfl) (fun _ _ _ h => h) (Or.inl ⟨by rfl, (by intro w hSw; (try dsimp only at hSw); go_simp; try with_reducible rfl)⟩) (by assumption) ?_
          (try simp only [Act.put, List.setIfInBounds_toArray, List.set_cons_zero, List.set_cons_succ])
          refine wpAnyT_take (i := 1) (oi := { dst := (some 114), op := (Go.Op.load 26 (Go.Operand.tmp 113)), type := 26, pos := "reg.go:93", after := #[{ on := 0, ground := Go.Ground.data }], guard := none }) (v := ?_) rfl (by kernel_rfl) (by kernel_rfl) (by kernel_rfl) (by kernel_rfl) (fun _ _ _ h => h) (Or.inl ⟨by rfl, (by intro w hSw; (try dsimp only at hSw); go_simp; try with_reducible rfl)⟩) (by assumption) ?_
          (try simp only [Act.put, List.setIfInBounds_toArray, List.set_cons_zero, List.set_cons_succ])
          refine wpAnyT_take (i := 3) (oi := { dst := (some 116), op := (Go.Op.fieldAddr 67 (Go.Operand.tmp 15) 1), type := 0, pos := "reg.go:93", after := #[], guard := none }) (v := ?_) rfl (by kernel_rfl) (by kernel_rfl) (by kernel_rfl) (by kernel_rfl) (fun _ _ _ h => h) (Or.inl ⟨by rfl, (by intro w hSw; (try dsimp only at hSw); go_simp; try with_reducible rfl)⟩) (by assumption) ?_
          (try simp only [Act.put, List.setIfInBounds_toArray, List.set_cons_zero, List.set_cons_succ])
          refine wpAnyT_take (i := 4) (oi := { dst := (some 117), op := (Go.Op.load 26 (Go.Operand.tmp 116)), type := 26, pos := "reg.go:93", after := #[{ on := 3, ground := Go.Ground.data }], guard := none }) (v := ?_) rfl (by kernel_rfl) (by kernel_rfl) (by kernel_rfl) (by kernel_rfl) (fun _ _ _ h => h) (Or.inl ⟨by rfl, (by intro w hSw; (try dsimp only at hSw); go_simp; try with_reducible rfl)⟩) (by assumption) ?_
          (try simp only [Act.put, List.setIfInBounds_toArray, List.set_cons_zero, List.set_cons_succ])
          refine wpAnyT_one (i := 2) (o := { dst := (some 115), op := (Go.Op.call { callee := (Go.Callee.value (Go.Operand.func 48)), args := #[(Go.Operand.tmp 114)], argTypes := #[26] }), type := 26, pos := "reg.go:93", after := #[{ on := 1, ground := Go.Ground.data }], guard := none }) (by kernel_rfl) rfl (fun K hK => ?_)
          go_simp
          (go_at_call 48; refine (Clone_calls HSd.out.rf (by (try simp only [List.length_append]); omega)).mono ?_; rintro e w3 ⟨v3, rfl, ho3, hu3⟩; obtain ⟨A3, c3, rfl, _, _⟩ := Rp.own_slice ho3; have HO3 := As.mk ho3; have HP3 := As.mk hu3; clear ho3 hu3)
          refine hK.out _ _ (fun _ => by first | exact HSd.out.cells HP4.out | exact HSd.out.cells HP3.out | exact HSd.out.cells (Upd.refl _ _)) (fun hHeld => ?_)
          replace hHeld := hHeld (by decide)
          clear hK K
          (try simp only [Act.put, List.setIfInBounds_toArray, List.set_cons_zero, List.set_cons_succ])
          refine wpAnyT_one (i := 5) (o := { dst := (some 118), op := (Go.Op.call { callee := (Go.Callee.builtin Go.Builtin.append), args := #[(Go.Operand.tmp 115), (Go.Operand.tmp 117)], argTypes := #[26, 26] }), type := 26, pos := "reg.go:93", after := #[{ on := 2, ground := Go.Ground.data }, { on := 4, ground := Go.Ground.data }, { on := 2, ground := Go.Ground.chain }], guard := none }) (by kernel_rfl) rfl (fun K hK => ?_)
          refine Rp.step_append_row intR (c := cq) HO3.out (Rp.row'_of (HSd.out.pure HP3.out).rqf (fun _ _ h => h)) (Fz := fun _ => False) (fun _ h => h.elim) (by rfl) _ _ 26 (.int .i64 0) 8 (by rfl) Try.underlying26 int_info rfl (by decide) (by decide) (by rfl) (by rfl) (by (try simp only [List.length_append]); omega) ?_; intro v4 w4 ho4 hu4 hat4; obtain ⟨AV1, cV1, rfl, _, _⟩ := Rp.own_slice ho4; have HP4 := As.mk (show Pure w2.drew w4 from Upd.trans HP3.out hu4 (fun k hk h => by have := (Rp.own_block_lt HO3.out k h).1; omega)); have HO4 := As.mk (int_own_fp' (G := fun k => w2.heap.size ≤ k) ho4 (fun k hk => by rcases hat4 with h | ⟨b, hb, hle⟩; exact (Rp.own_block_lt HO3.out k (h ▸ hk)).1; rw [hb] at hk; injection hk with hk; have h9 : w2.heap.size ≤ w3.heap.size := HP3.out.size; omega)); clear ho4 hu4 hat4
          refine hK.out _ _ (fun _ => by first | exact HSd.out.cells HP4.out | exact HSd.out.cells HP3.out | exact HSd.out.cells (Upd.refl _ _)) (fun hHeld => ?_)
          replace hHeld := hHeld (by decide)
          clear hK K
          (try simp only [Act.put, List.setIfInBounds_toArray, List.set_cons_zero, List.set_cons_succ])
          refine wpAnyT_take (i := 6) (oi := { dst := (some 119), op := (Go.Op.fieldAddr 67 (Go.Operand.tmp 12) 1), type := 0, pos := "reg.go:93", after := #[{ on := 0, ground := Go.Ground.phase }, { on := 1, ground := Go.Ground.phase }, { on := 2, ground := Go.Ground.phase }, { on := 3, ground := Go.Ground.phase }, { on := 4, ground := Go.Ground.phase }, { on := 5, ground := Go.Ground.phase }], guard := none }) (v := ?_) rfl (by kernel_rfl) (by kernel_rfl) (by kernel_rfl) (by kernel_rfl) (fun _ _ _ h => h) (Or.inl ⟨by rfl, (by intro w hSw; (try dsimp only at hSw); go_simp; try with_reducible rfl)⟩) (by assumption) ?_
          (try simp only [Act.put, List.setIfInBounds_toArray, List.set_cons_zero, List.set_cons_succ])
          refine wpAnyT_one (i := 7) (o := { dst := none, op := (Go.Op.store 26 (Go.Operand.tmp 119) (Go.Operand.tmp 118)), type := 0, pos := "reg.go:93", after := #[{ on := 6, ground := Go.Ground.data }, { on := 5, ground := Go.Ground.data }, { on := 5, ground := Go.Ground.chain }, { on := 0, ground := Go.Ground.phase }, { on := 1, ground := Go.Ground.phase }, { on := 2, ground := Go.Ground.phase }, { on := 3, ground := Go.Ground.phase }, { on := 4, ground := Go.Ground.phase }, { on := 5, ground := Go.Ground.phase }], guard := none }) (by kernel_rfl) rfl (fun K hK => ?_)
          go_simp
          refine hK.out _ _ (fun h => absurd rfl h) (fun hHeld => ?_)
          clear hK K
          (try simp only [Act.put, List.setIfInBounds_toArray, List.set_cons_zero, List.set_cons_succ])
          refine wpAnyT_done (by kernel_rfl) ?_ _
          rw [(show w.heap.size + 1 + 1 = w.heap.size + 2 from rfl)]
          replace HST := As.mk ((HSd.out.pure HP4.out).first (c3 := cV1) (row_new (R := fun q => w.heap.size + 3 ≤ q ∧ ¬ M2 q) HO4.out (fun k hk => by have h8 := (Rp.own_block_lt HO4.out k hk).1; exact ⟨by omega, fun hM => by have := HM2L.out k hM; omega⟩)))
          rw [show ((pf) ++ (glu g x s).2.first).length = (pf).length + (glu g x s).2.first.length from List.length_append] at HST
          generalize w4.setCell ⟨w.heap.size + 2, 1, none⟩ (.slice AV1 ((pf).length + (glu g x s).2.first.length) cV1) = V1 at *
          clear HSd HP3 HO3 HP4 HO4 hvs
          obtain ⟨c0, c1, c2, d0, d1, d2, f0, f1, f2⟩ := HST.out.cells (Upd.refl (fun _ => False) _)
          go_wp2
          clear c0 c1 c2 d0 d1 d2 f0 f1 f2
          have HSd := As.mk (HST.out.pure ((Upd.refl (fun _ => False) _).drew))
          have hvs : w2.heap.size ≤ V1.heap.size := HST.out.upd.size
          refine wp_region_T (P := Try.prog) (fun v => v.cell? ⟨w.heap.size + 2, 0, none⟩ = some (.bool true) ∧ v.cell? ⟨w.heap.size + 2, 1, none⟩ = some (.slice AV1 (pf ++ (glu g x s).2.first).length cV1) ∧ v.cell? ⟨w.heap.size + 2, 2, none⟩ = some (.slice Al (pl).length cl) ∧ v.cell? ⟨w1.heap.size, 0, none⟩ = some (.bool true) ∧ v.cell? ⟨w1.heap.size, 1, none⟩ = some (.slice Aq (glu g x s).2.first.length cq) ∧ v.cell? ⟨w1.heap.size, 2, none⟩ = some (.slice Ar (glu g x s).2.last.length cr) ∧ v.frozen? ⟨w.heap.size + 2, 0, none⟩ = false ∧ v.frozen? ⟨w.heap.size + 2, 1, none⟩ = false ∧ v.frozen? ⟨w.heap.size + 2, 2, none⟩ = false) 7 (by kernel_rfl) ?_ (fun hHeld => ?_)
          · first | exact HSd.out.cells HP4.out | exact HSd.out.cells HP3.out | exact HSd.out.cells (Upd.refl _ _)
          refine wpAnyT_take (i := 0) (oi := { dst := (some 122), op := (Go.Op.fieldAddr 67 (Go.Operand.tmp 12) 2), type := 0, pos := "reg.go:96", after := #[], guard := none }) (v := ?_) rfl (by kernel_rfl) (by kernel_rfl) (by kernel_rfl) (by kernel_rfl) (fun _ _ _ h => h) (Or.inl ⟨by rfl, (by intro w hSw; (try dsimp only at hSw); go_simp; try with_reducible rfl)⟩) (by assumption) ?_
          (try simp only [Act.put, List.setIfInBounds_toArray, List.set_cons_zero, List.set_cons_succ])
          refine wpAnyT_take (i := 1) (oi := { dst := (some 123), op := (Go.Op.load 26 (Go.Operand.tmp 122)), type := 26, pos := "reg.go:96", after := #[{ on := 0, ground := Go.Ground.data }], guard := none }) (v := ?_) rfl (by kernel_rfl) (by kernel_rfl) (by kernel_rfl) (by kernel_rfl) (fun _ _ _ h => h) (Or.inl ⟨by rfl, (by intro w hSw; (try dsimp only at hSw); go_simp; try with_reducible rfl)⟩) (by assumption) ?_
          (try simp only [Act.put, List.setIfInBounds_toArray, List.set_cons_zero, List.set_cons_succ])
          refine wpAnyT_take (i := 3) (oi := { dst := (some 125), op := (Go.Op.fieldAddr 67 (Go.Operand.tmp 15) 2), type := 0, pos := "reg.go:96", after := #[], guard := none }) (v := ?_) rfl (by kernel_rfl) (by kernel_rfl) (by kernel_rfl) (by kernel_rfl) (fun _ _ _ h => h) (Or.inl ⟨by rfl, (by intro w hSw; (try dsimp only at hSw); go_simp; try with_reducible rfl)⟩) (by assumption) ?_
          (try simp only [Act.put, List.setIfInBounds_toArray, List.set_cons_zero, List.set_cons_succ])
          refine wpAnyT_take (i := 4) (oi := { dst := (some 126), op := (Go.Op.load 26 (Go.Operand.tmp 125)), type := 26, pos := "reg.go:96", after := #[{ on := 3, ground := Go.Ground.data }], guard := none }) (v := ?_) rfl (by kernel_rfl) (by kernel_rfl) (by kernel_rfl) (by kernel_rfl) (fun _ _ _ h => h) (Or.inl ⟨by rfl, (by intro w hSw; (try dsimp only at hSw); go_simp; try with_reducible rfl)⟩) (by assumption) ?_
          (try simp only [Act.put, List.setIfInBounds_toArray, List.set_cons_zero, List.set_cons_succ])
          refine wpAnyT_one (i := 2) (o := { dst := (some 124), op := (Go.Op.call { callee := (Go.Callee.value (Go.Operand.func 48)), args := #[(Go.Operand.tmp 123)], argTypes := #[26] }), type := 26, pos := "reg.go:96", after := #[{ on := 1, ground := Go.Ground.data }], guard := none }) (by kernel_rfl) rfl (fun K hK => ?_)
          go_simp
          (go_at_call 48; refine (Clone_calls HSd.out.rl (by (try simp only [List.length_append]); omega)).mono ?_; rintro e w3 ⟨v3, rfl, ho3, hu3⟩; obtain ⟨A3, c3, rfl, _, _⟩ := Rp.own_slice ho3; have HO3 := As.mk ho3; have HP3 := As.mk hu3; clear ho3 hu3)
          refine hK.out _ _ (fun _ => by first | exact HSd.out.cells HP4.out | exact HSd.out.cells HP3.out | exact HSd.out.cells (Upd.refl _ _)) (fun hHeld => ?_)
          replace hHeld := hHeld (by decide)
          clear hK K
          (try simp only [Act.put, List.setIfInBounds_toArray, List.set_cons_zero, List.set_cons_succ])
          refine wpAnyT_one (i := 5) (o := { dst := (some 127), op := (Go.Op.call { callee := (Go.Callee.builtin Go.Builtin.append), args := #[(Go.Operand.tmp 124), (Go.Operand.tmp 126)], argTypes := #[26, 26] }), type := 26, pos := "reg.go:96", after := #[{ on := 2, ground := Go.Ground.data }, { on := 4, ground := Go.Ground.data }, { on := 2, ground := Go.Ground.chain }], guard := none }) (by kernel_rfl) rfl (fun K hK => ?_)
          refine Rp.step_append_row intR (c := cr) HO3.out (Rp.row'_of (HSd.out.pure HP3.out).rql (fun _ _ h => h)) (Fz := fun _ => False) (fun _ h => h.elim) (by rfl) _ _ 26 (.int .i64 0) 8 (by rfl) Try.underlying26 int_info rfl (by decide) (by decide) (by rfl) (by rfl) (by (try simp only [List.length_append]); omega) ?_; intro v4 w4 ho4 hu4 hat4; obtain ⟨AV2, cV2, rfl, _, _⟩ := Rp.own_slice ho4; have HP4 := As.mk (show Pure V1.drew w4 from Upd.trans HP3.out hu4 (fun k hk h => by have := (Rp.own_block_lt HO3.out k h).1; omega)); have HO4 := As.mk (int_own_fp' (G := fun k => V1.heap.size ≤ k) ho4 (fun k hk => by rcases hat4 with h | ⟨b, hb, hle⟩; exact (Rp.own_block_lt HO3.out k (h ▸ hk)).1; rw [hb] at hk; injection hk with hk; have h9 : V1.heap.size ≤ w3.heap.size := HP3.out.size; omega)); clear ho4 hu4 hat4
          refine hK.out _ _ (fun _ => by first | exact HSd.out.cells HP4.out | exact HSd.out.cells HP3.out | exact HSd.out.cells (Upd.refl _ _)) (fun hHeld => ?_)
          replace hHeld := hHeld (by decide)
          clear hK K
          (try simp only [Act.put, List.setIfInBounds_toArray, List.set_cons_zero, List.set_cons_succ])
          refine wpAnyT_take (i := 6) (oi := { dst := (some 128), op := (Go.Op.fieldAddr 67 (Go.Operand.tmp 12) 2), type := 0, pos := "reg.go:96", after := #[{ on := 0, ground := Go.Ground.phase }, { on := 1, ground := Go.Ground.phase }, { on := 2, ground := Go.Ground.phase }, { on := 3, ground := Go.Ground.phase }, { on := 4, ground := Go.Ground.phase }, { on := 5, ground := Go.Ground.phase }], guard := none }) (v := ?_) rfl (by kernel_rfl) (by kernel_rfl) (by kernel_rfl) (by kernel_rfl) (fun _ _ _ h => h) (Or.inl ⟨by rfl, (by intro w hSw; (try dsimp only at hSw); go_simp; try with_reducible rfl)⟩) (by assumption) ?_
          (try simp only [Act.put, List.setIfInBounds_toArray, List.set_cons_zero, List.set_cons_succ])
          refine wpAnyT_one (i := 7) (o := { dst := none, op := (Go.Op.store 26 (Go.Operand.tmp 128) (Go.Operand.tmp 127)), type := 0, pos := "reg.go:96", after := #[{ on := 6, ground := Go.Ground.data }, { on := 5, ground := Go.Ground.data }, { on := 5, ground := Go.Ground.chain }, { on := 0, ground := Go.Ground.phase }, { on := 1, ground := Go.Ground.phase }, { on := 2, ground := Go.Ground.phase }, { on := 3, ground := Go.Ground.phase }, { on := 4, ground := Go.Ground.phase }, { on := 5, ground := Go.Ground.phase }], guard := none }) (by kernel_rfl) rfl (fun K hK => ?_)
          go_simp
          refine hK.out _ _ (fun h => absurd rfl h) (fun hHeld => ?_)
          clear hK K
          (try simp only [Act.put, List.setIfInBounds_toArray, List.set_cons_zero, List.set_cons_succ])
          refine wpAnyT_done (by kernel_rfl) ?_ _
          rw [(show w.heap.size + 1 + 1 = w.heap.size + 2 from rfl)]
          replace HST := As.mk ((HSd.out.pure HP4.out).last (c3 := cV2) (row_new (R := fun q => w.heap.size + 3 ≤ q ∧ ¬ M2 q) HO4.out (fun k hk => by have h8 := (Rp.own_block_lt HO4.out k hk).1; exact ⟨by omega, fun hM => by have := HM2L.out k hM; omega⟩)))
          rw [show ((pl) ++ (glu g x s).2.last).length = (pl).length + (glu g x s).2.last.length from List.length_append] at HST
          generalize w4.setCell ⟨w.heap.size + 2, 2, none⟩ (.slice AV2 ((pl).length + (glu g x s).2.last.length) cV2) = V2 at *
          clear HSd HP3 HO3 HP4 HO4 hvs
          obtain ⟨c0, c1, c2, d0, d1, d2, f0, f1, f2⟩ := HST.out.cells (Upd.refl (fun _ => False) _)
          go_wp2
          go_roundg g1
          case measure => omega
          case rel =>
            rw [(show w.heap.size + 1 + 1 = w.heap.size + 2 from rfl)]
            exact ⟨k + 1, by have := HK.out; omega, by go_num, ⟨HFIN.out _ _ _ _ _ _ _ _ ((HST.out).noneB (true)) (by simp) (by simp) (by simp)⟩⟩
    · have hkl : k = l.length := by omega
      subst hkl
      rw [List.drop_length] at HC
      obtain ⟨Af, cf, Al, cl, hpb, hrb, hend⟩ := HC.out.done (by have := HM.out.low mb HM.out.mbM; omega) (fun k hk => (HM.out.low k hk).2) (fun s p => by rw [gluSeq])
      obtain ⟨⟨p0, p1, p2⟩, _, _, _, _⟩ := cells3 hpb
      obtain ⟨⟨r0, r1, r2⟩, f0, f1, f2, _⟩ := cells3 hrb
      have HE := As.mk hend
      rw [← HV.out] at HE p0 p1 p2
      clear hpb hrb hend HC
      go_wp2
      obtain ⟨he1, he2⟩ := HE.out _ rfl
      exact build_ret (rb := w.heap.size + 1) rfl he1 rfl he2
end Go.Proofs.Ytchgeaklaeoplaa
