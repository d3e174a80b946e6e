/- reg.machine.build at a choice. -/
import Derived.Test.YtchgeaklaeoplaaBuild2
namespace Go.Proofs.Ytchgeaklaeoplaa
open Go.RowKit
set_option linter.unusedVariables false
set_option linter.unusedSimpArgs false

/-- What holds from part to part: the boxes are w.heap.size (the tree), + 1 (the result), + 2 (what is reckoned). -/
def LoopRel (C : List Ex → St → Part → St × Part) (tgt : St × Part) (w wr : World) (B : Nat) (M : Nat → Prop) (mb : Nat) (b0 b1 b2 : Value) (s0 : St) (rest : List Ex) (n : Nat) : Prop :=
  ∃ M' tv fv vs s p Af cf Al cl, C rest s p = tgt ∧ Bd s0 s p n ∧ s.2.length = s.1.length ∧ (∀ x ∈ s.2, x.length + 80000 * Ex.cnts rest ≤ 1000000000) ∧ Mach wr B M' mb s.1 s.2 b0 b1 b2 tv fv vs ∧
    (∀ k, M k → M' k) ∧ (∀ k, M' k → M k ∨ w.heap.size + 3 ≤ k) ∧ wr.heap[w.heap.size + 2]? = some (.cells #[.bool p.none, .slice Af p.first.length cf, .slice Al p.last.length cl] 67 (0, 0)) ∧
    wr.heap[w.heap.size + 1]? = some (.cells #[.bool false, .slice none 0 0, .slice none 0 0] 67 (0, 0)) ∧ intR.row wr (fun k => w.heap.size + 3 ≤ k ∧ ¬ M' k) Af p.first ∧ intR.row wr (fun k => w.heap.size + 3 ≤ k ∧ ¬ M' k) Al p.last ∧ Upd M w wr

theorem Bd.start (s : St) (b : Bool) : Bd s s ⟨b, [], []⟩ 0 := ⟨id, Nat.le_refl _, by simp, by simp, by simp, by simp, by simp⟩

/-- A struct of three cells laid open. -/
theorem cells3 {w : World} {b : Nat} {x0 x1 x2 : Value} {t : TypeId} (h : w.heap[b]? = some (.cells #[x0, x1, x2] t (0, 0))) :
    (w.cell? ⟨b, 0, none⟩ = some x0 ∧ w.cell? ⟨b, 1, none⟩ = some x1 ∧ w.cell? ⟨b, 2, none⟩ = some x2) ∧ w.frozen? ⟨b, 0, none⟩ = false ∧ w.frozen? ⟨b, 1, none⟩ = false ∧ w.frozen? ⟨b, 2, none⟩ = false ∧ b < w.heap.size :=
  ⟨⟨by unfold World.cell?; simp only [h]; rfl, by unfold World.cell?; simp only [h]; rfl, by unfold World.cell?; simp only [h]; rfl⟩, by simp [World.frozen?, h], by simp [World.frozen?, h], by simp [World.frozen?, h], (Array.getElem?_eq_some_iff.1 h).1⟩

theorem LoopRel.done {C : List Ex → St → Part → St × Part} {tgt : St × Part} {w wr : World} {B : Nat} {M : Nat → Prop} {mb : Nat} {b0 b1 b2 : Value} {s0 : St} {n : Nat} (h : LoopRel C tgt w wr B M mb b0 b1 b2 s0 [] n) (hB : B ≤ w.heap.size) (hMl : ∀ k, M k → k < w.heap.size) (hC : ∀ s p, C [] s p = (s, p)) :
    ∃ Af cf Al cl, wr.heap[w.heap.size + 2]? = some (.cells #[.bool tgt.2.none, .slice Af tgt.2.first.length cf, .slice Al tgt.2.last.length cl] 67 (0, 0)) ∧
      wr.heap[w.heap.size + 1]? = some (.cells #[.bool false, .slice none 0 0, .slice none 0 0] 67 (0, 0)) ∧
      ∀ w', w' = (((wr.setCell ⟨w.heap.size + 1, 0, none⟩ (.bool tgt.2.none)).setCell ⟨w.heap.size + 1, 1, none⟩ (.slice Af tgt.2.first.length cf)).setCell ⟨w.heap.size + 1, 2, none⟩ (.slice Al tgt.2.last.length cl)) →
        w'.heap[w.heap.size + 1]? = some (.cells #[.bool tgt.2.none, .slice Af tgt.2.first.length cf, .slice Al tgt.2.last.length cl] 67 (0, 0)) ∧
        BuildPost w w' B M mb b0 b1 b2 tgt.1 tgt.2 (.returned (.agg #[.bool tgt.2.none, .slice Af tgt.2.first.length cf, .slice Al tgt.2.last.length cl])) := by
  obtain ⟨M', tv, fv, vs, s, p, Af, cf, Al, cl, hc, hbd, hlen, hfb, hm, hM1, hM2, hpb, hrb, hf, hl, hu⟩ := h
  rw [hC] at hc
  subst hc
  refine ⟨Af, cf, Al, cl, hpb, hrb, ?_⟩
  rintro w' rfl
  have hsu := set3_upd wr (w.heap.size + 1) (.bool p.none) (.slice Af p.first.length cf) (.slice Al p.last.length cl)
  have hsz : ((((wr.setCell ⟨w.heap.size + 1, 0, none⟩ (.bool p.none)).setCell ⟨w.heap.size + 1, 1, none⟩ (.slice Af p.first.length cf)).setCell ⟨w.heap.size + 1, 2, none⟩ (.slice Al p.last.length cl))).heap.size = wr.heap.size := by simp [World.setCell]
  refine ⟨set3 hrb _ _ _, Af, cf, Al, cl, M', tv, fv, vs, rfl, hm.upd hsu (fun k _ hk => ?_), ⟨hM1, fun k hk => ?_⟩, ?_, ?_, Upd.trans hu hsu (fun k hk he => by omega)⟩
  · subst hk
    refine ⟨by omega, fun h => ?_⟩
    rcases hM2 _ h with h | h
    · have := hMl _ h; omega
    · omega
  · rcases hM2 k hk with h | h
    · exact .inl h
    · exact .inr ⟨by omega, by rw [hsz]; exact (hm.low k hk).2⟩
  · exact Rp.row_fp (Rp.row_upd hf hsu (fun k _ hk he => by omega)) (fun k hk => ⟨by omega, hk.2⟩)
  · exact Rp.row_fp (Rp.row_upd hl hsu (fun k _ hk he => by omega)) (fun k hk => ⟨by omega, hk.2⟩)

set_option maxRecDepth 100000 in
set_option maxHeartbeats 4000000 in
theorem build_alt (nm : ByteArray) (l : List Ex) (HI : ∀ x ∈ l, BuildC x) (hcnt : Ex.cnts l ≤ 199) : BuildC (.mk 3 nm l) := by
  intro w B M F G mb s b0 b1 b2 tv fv vs A Ag c cg g hsl0 hm hr hF hg hG hgl hs hfb
  obtain ⟨s1, s2⟩ := s
  have HII := As.mk HI
  have HM := As.mk hm
  have HR := As.mk hr
  have HF := As.mk hF
  have HG := As.mk hg
  have HGB := As.mk hG
  simp only at hsl0
  have hlb := (hm.low mb hm.mbM)
  have hc1 : (Ex.mk 3 nm l).cnt = 1 + Ex.cnts l := by simp [Ex.cnt]
  rw [hc1] at hs hfb
  simp only at hs hfb
  have hll : l.length ≤ 199 := by
    have h : l.length ≤ Ex.cnts l := by
      clear HII HI HR hr hc1 hs hfb hcnt
      induction l with
      | nil => simp
      | cons x r ih => have := x.cnt_pos; simp only [Ex.cnts, List.length_cons]; omega
    omega
  have HV := As.mk (show glu g (.mk 3 nm l) (s1, s2) = gluAlt g l (s1, s2) ⟨false, [], []⟩ by rw [glu]; rfl)
  have HFB := As.mk (show ∀ x ∈ s2, x.length + 80000 * Ex.cnts l ≤ 1000000000 from fun x hx => by have := hfb x hx; omega)
  have HS := As.mk hsl0
  clear hm hr hF hg hG hfb HI hc1 hsl0
  show Calls Try.prog 35 #[.pointer (some ⟨mb, 0, none⟩), .agg #[.int .i64 3, .string nm, .slice A l.length c], .slice Ag g.length cg] w _
  go_enter Try.func35, Try.ntmps35
  go_wp2
  go_loopg [62] l.length (fun gg i wr => ∃ k : Nat, k + gg = l.length ∧ i = .int .i64 k ∧ As (LoopRel (gluAlt g) (gluAlt g l (s1, s2) ⟨false, [], []⟩) w wr B M mb b0 b1 b2 (s1, s2) (l.drop k) (Ex.cnts (l.take k))))
  case atStart =>
    refine ⟨0, by omega, rfl, ⟨M, tv, fv, vs, (s1, s2), ⟨false, [], []⟩, none, 0, none, 0, rfl, Bd.start _ _, HS.out, HFB.out, HM.out.pure (((Upd.alloc1 _ _ _).alloc _).alloc _), fun _ h => h, fun _ h => .inl h, ?_, ?_, .inl rfl, .inl rfl, ((Upd.alloc1 _ _ _).alloc _).alloc _⟩⟩
    · have := heap_alloc_new ((w.alloc (.cells #[.int .i64 3, .string nm, .slice A l.length c] 24)).alloc (.cells #[.bool false, .slice none 0 0, .slice none 0 0] 67)) (.cells #[.bool false, .slice none 0 0, .slice none 0 0] 67)
      simpa using this
    · exact (Below.heap_alloc _ _ _ (by simp)).trans (heap_alloc2_new w _ _)
  case round =>
    obtain ⟨k, hk, rfl, HC⟩ := hrel
    by_cases hlt : k < l.length
    · obtain ⟨x, hx⟩ : ∃ x, l[k]? = some x := ⟨_, List.getElem?_eq_getElem hlt⟩
      obtain ⟨M', tv', fv', vs', s, ⟨pn, pf, pl⟩, Af, cf, Al, cl, hc, hbd, hlen, hfb2, hm2, hM1, hM2, hpb, hrb, hf2, hl2, hu2⟩ := HC.out
      have hmM := fun k hk => (HM.out.low k hk)
      have hrw := Rp.row_upd HR.out hu2 (fun k _ hF hM => by have := HF.out k hF; have := (hmM k hM).1; omega)
      have hgw := Rp.row_upd HG.out hu2 (fun k _ hF hM => by have := HGB.out k hF; have := (hmM k hM).1; omega)
      obtain ⟨b, o, Ax, cx, rfl, hFb, hbl, d0, d1, d2, hle1, hrow1⟩ := ex_at hrw hx
      obtain ⟨g1, rfl⟩ : ∃ m, gk = m + 1 := ⟨gk - 1, by omega⟩
      have hxm := List.mem_of_getElem? hx
      have hdx := drop_cons' hx
      have hcx : Ex.cnts (l.take (k + 1)) = Ex.cnts (l.take k) + x.cnt := Ex.cnts_succ hx
      have hsum : Ex.cnts (l.take k) + Ex.cnts (l.drop k) = Ex.cnts l := by rw [← Ex.cnts_append, List.take_append_drop]
      have hdc : Ex.cnts (l.drop k) = x.cnt + Ex.cnts (l.drop (k + 1)) := by rw [hdx]; simp [Ex.cnts]
      have hbhi := hbd.hi
      have hbfl := hbd.fl
      have hbll := hbd.ll
      simp only at hbhi hbfl hbll
      have HBC := As.mk (fun (wz : World) (hz : Pure wr wz) => HII.out x hxm wz B M' F G mb s b0 b1 b2 tv' fv' vs' Ax Ag cx cg g hlen (hm2.pure hz) (Rp.row_pure hrow1 hz) HF.out (Rp.row_pure hgw hz) HGB.out hgl (by omega) (fun y hy => by have := hfb2 y hy; omega))
      have hql := glu_bd g x s
      have hqfl := hql.fl
      have hqll := hql.ll
      have HBD := As.mk hbd
      have HQB := As.mk hql
      have HLN := As.mk hlen
      have HFB2 := As.mk hfb2
      have HCC := As.mk hc
      have HM1 := As.mk hM1
      have HM2 := As.mk hM2
      have HPB := As.mk hpb
      have HRB := As.mk hrb
      have HF2 := As.mk hf2
      have HL2 := As.mk hl2
      have HU2 := As.mk hu2
      have HLOW := As.mk (fun k hk => hm2.low k hk)
      have HK := As.mk hk
      have HDX := As.mk hdx
      have HCX := As.mk hcx
      have hprl := (Array.getElem?_eq_some_iff.1 hpb).1
      clear hbd hql hlen hfb2 hc hM1 hM2 hpb hrb hf2 hl2 hu2 hm2 hrw hgw hrow1 hx hk hdx hcx HC hmM
      go_wp2_with (go_at_call 35; refine (HBC.out _ (Upd.alloc1 _ _ _)).mono ?_; rintro e w1 ⟨Aq, cq, Ar, cr, M1, tv1, fv1, vs1, rfl, hm1, hg1, hqf, hql, hu1⟩; have HMM := As.mk hm1; have HGG := As.mk hg1; have HQF := As.mk hqf; have HQL := As.mk hql; have HU1 := As.mk hu1; clear hm1 hg1 hqf hql hu1)
      cases pn
      · generalize hW : w1.alloc (.cells #[.bool (glu g x s).2.none, .slice Aq (glu g x s).2.first.length cq, .slice Ar (glu g x s).2.last.length cr] 67) = W
        have HPW1 : As (Pure w1 W.drew) := ⟨hW ▸ (Upd.alloc1 (fun _ => False) w1 _).drew⟩
        have hWs : W.drew.heap.size = w1.heap.size + 1 := by subst hW; simp
        have hqb : W.drew.heap[w1.heap.size]? = some (.cells #[.bool (glu g x s).2.none, .slice Aq (glu g x s).2.first.length cq, .slice Ar (glu g x s).2.last.length cr] 67 (0, 0)) := by subst hW; exact heap_alloc_new w1 _
        clear hW
        have hlow0 := HM.out.low mb HM.out.mbM
        have hw01 := HU2.out.size
        have hw12 : wr.heap.size + 1 ≤ w1.heap.size := by have := HU1.out.size; simpa using this
        have hnpM : ¬ M' (w.heap.size + 2) := fun h => by rcases HM2.out _ h with h | h; (have := (HM.out.low _ h).2; omega); omega
        have hnrM : ¬ M' (w.heap.size + 1) := fun h => by rcases HM2.out _ h with h | h; (have := (HM.out.low _ h).2; omega); omega
        have HU01 : As (Upd M' wr W.drew) := ⟨Upd.trans (Upd.trans (Upd.alloc1 M' wr _) HU1.out (fun _ _ h => h)) HPW1.out (fun _ _ h => h.elim)⟩
        have hpb : W.drew.heap[w.heap.size + 2]? = some (.cells #[.bool false, .slice Af pf.length cf, .slice Al pl.length cl] 67 (0, 0)) := (HU01.out.block _ hprl hnpM).trans HPB.out
        have hrb : W.drew.heap[w.heap.size + 1]? = some (.cells #[.bool false, .slice none 0 0, .slice none 0 0] 67 (0, 0)) := (HU01.out.block _ (by omega) hnrM).trans HRB.out
        have HPf := As.mk (Rp.row_upd HF2.out HU01.out (fun _ _ h => h.2))
        have HPl := As.mk (Rp.row_upd HL2.out HU01.out (fun _ _ h => h.2))
        have HQf := As.mk (Rp.row_pure HQF.out HPW1.out)
        have HQl := As.mk (Rp.row_pure HQL.out HPW1.out)
        have HM12 : As (∀ q, M1 q → M q ∨ w.heap.size + 3 ≤ q) := ⟨fun q hq => by
          rcases HGG.out.2 q hq with h | h
          · exact HM2.out q h
          · have h1 := h.1
            simp at h1
            omega⟩
        have HPBM : As (¬ M1 (w.heap.size + 2)) := ⟨fun h => by rcases HM12.out _ h with h | h; (have := (HM.out.low _ h).2; omega); omega⟩
        have HPB0 := As.mk hpb
        have HRB0 := As.mk hrb
        obtain ⟨⟨pc0, pc1, pc2⟩, pg0, pg1, pg2, pl3⟩ := cells3 hpb
        obtain ⟨⟨qc0, qc1, qc2⟩, _, _, _, ql3⟩ := cells3 hqb
        clear hpb hrb hqb
        have HSK : As (∀ v, Pure W.drew v → v.cell? ⟨w.heap.size + 2, 0, none⟩ = some (.bool false) ∧ v.cell? ⟨w.heap.size + 2, 1, none⟩ = some (.slice Af pf.length cf) ∧ v.cell? ⟨w.heap.size + 2, 2, none⟩ = some (.slice Al pl.length cl) ∧ v.cell? ⟨w1.heap.size, 0, none⟩ = some (.bool (glu g x s).2.none) ∧ v.cell? ⟨w1.heap.size, 1, none⟩ = some (.slice Aq (glu g x s).2.first.length cq) ∧ v.cell? ⟨w1.heap.size, 2, none⟩ = some (.slice Ar (glu g x s).2.last.length cr) ∧ v.frozen? ⟨w.heap.size + 2, 0, none⟩ = false ∧ v.frozen? ⟨w.heap.size + 2, 1, none⟩ = false ∧ v.frozen? ⟨w.heap.size + 2, 2, none⟩ = false) := ⟨fun v hv => ⟨(hv.cell pl3 (fun h => h)).trans pc0, (hv.cell pl3 (fun h => h)).trans pc1, (hv.cell pl3 (fun h => h)).trans pc2, (hv.cell ql3 (fun h => h)).trans qc0, (hv.cell ql3 (fun h => h)).trans qc1, (hv.cell ql3 (fun h => h)).trans qc2, (hv.frozen pl3 (fun h => h)).trans pg0, (hv.frozen pl3 (fun h => h)).trans pg1, (hv.frozen pl3 (fun h => h)).trans pg2⟩⟩
        clear pc0 pc1 pc2 qc0 qc1 qc2 pg0 pg1 pg2
        refine wp_region_T (P := Try.prog) (fun v => v.cell? ⟨w.heap.size + 2, 0, none⟩ = some (.bool false) ∧ v.cell? ⟨w.heap.size + 2, 1, none⟩ = some (.slice Af pf.length cf) ∧ v.cell? ⟨w.heap.size + 2, 2, none⟩ = some (.slice Al pl.length cl) ∧ v.cell? ⟨w1.heap.size, 0, none⟩ = some (.bool (glu g x s).2.none) ∧ v.cell? ⟨w1.heap.size, 1, none⟩ = some (.slice Aq (glu g x s).2.first.length cq) ∧ v.cell? ⟨w1.heap.size, 2, none⟩ = some (.slice Ar (glu g x s).2.last.length cr) ∧ v.frozen? ⟨w.heap.size + 2, 0, none⟩ = false ∧ v.frozen? ⟨w.heap.size + 2, 1, none⟩ = false ∧ v.frozen? ⟨w.heap.size + 2, 2, none⟩ = false) 19 (by kernel_rfl) ?_ (fun hHeld => ?_)
        · first | exact HSK.out _ HP5.out | exact HSK.out _ HP4.out | exact HSK.out _ HP3.out | exact HSK.out _ HP2.out | exact HSK.out _ (Upd.refl _ _)
        refine wpAnyT_take (i := 0) (oi := { dst := (some 70), op := (Go.Op.fieldAddr 67 (Go.Operand.tmp 8) 0), type := 0, pos := "reg.go:84", after := #[], guard := none }) (v := ?_) rfl (by kernel_rfl) (by kernel_rfl) (by kernel_rfl) (by kernel_rfl) (fun _ _ _ h => h) (Or.inl ⟨by rfl, (by intro w hSw; (try dsimp only at hSw); go_simp; try with_reducible rfl)⟩) (by assumption) ?_
        (try simp only [Act.put, List.setIfInBounds_toArray, List.set_cons_zero, List.set_cons_succ])
        refine wpAnyT_take (i := 1) (oi := { dst := (some 71), op := (Go.Op.load 4 (Go.Operand.tmp 70)), type := 4, pos := "reg.go:84", after := #[{ on := 0, ground := Go.Ground.data }], guard := none }) (v := ?_) rfl (by kernel_rfl) (by kernel_rfl) (by kernel_rfl) (by kernel_rfl) (fun _ _ _ h => h) (Or.inl ⟨by rfl, (by intro w hSw; (try dsimp only at hSw); go_simp; try with_reducible rfl)⟩) (by assumption) ?_
        (try simp only [Act.put, List.setIfInBounds_toArray, List.set_cons_zero, List.set_cons_succ])
        refine wpAnyT_take (i := 2) (oi := { dst := (some 72), op := (Go.Op.move (Go.Operand.tmp 71)), type := 4, pos := "reg.go:84", after := #[{ on := 1, ground := Go.Ground.data }], guard := none }) (v := ?_) rfl (by kernel_rfl) (by kernel_rfl) (by kernel_rfl) (by kernel_rfl) (fun _ _ _ h => h) (Or.inl ⟨by rfl, (by intro w hSw; (try dsimp only at hSw); go_simp; try with_reducible rfl)⟩) (by assumption) ?_
        (try simp only [Act.put, List.setIfInBounds_toArray, List.set_cons_zero, List.set_cons_succ])
        refine wpAnyT_take (i := 3) (oi := { dst := (some 73), op := (Go.Op.fieldAddr 67 (Go.Operand.tmp 11) 0), type := 0, pos := "reg.go:84", after := #[{ on := 2, ground := Go.Ground.guard }], guard := (some (2, false)) }) (v := ?_) rfl (by kernel_rfl) (by kernel_rfl) (by kernel_rfl) (by kernel_rfl) (fun _ _ _ h => h) (Or.inl ⟨by rfl, (by intro w hSw; (try dsimp only at hSw); go_simp; try with_reducible rfl)⟩) (by assumption) ?_
        (try simp only [Act.put, List.setIfInBounds_toArray, List.set_cons_zero, List.set_cons_succ])
        refine wpAnyT_take (i := 4) (oi := { dst := (some 74), op := (Go.Op.load 4 (Go.Operand.tmp 73)), type := 4, pos := "reg.go:84", after := #[{ on := 3, ground := Go.Ground.data }, { on := 2, ground := Go.Ground.guard }], guard := (some (2, false)) }) (v := ?_) rfl (by kernel_rfl) (by kernel_rfl) (by kernel_rfl) (by kernel_rfl) (fun _ _ _ h => h) (Or.inl ⟨by rfl, (by intro w hSw; (try dsimp only at hSw); go_simp; try with_reducible rfl)⟩) (by assumption) ?_
        (try simp only [Act.put, List.setIfInBounds_toArray, List.set_cons_zero, List.set_cons_succ])
        refine wpAnyT_take (i := 5) (oi := { dst := (some 75), op := (Go.Op.pick (Go.Operand.tmp 72) (Go.Operand.const (Go.Value.bool true)) (Go.Operand.tmp 74)), type := 4, pos := "reg.go:84", after := #[{ on := 2, ground := Go.Ground.data }, { on := 4, ground := Go.Ground.data }], guard := none }) (v := ?_) rfl (by kernel_rfl) (by kernel_rfl) (by kernel_rfl) (by kernel_rfl) (fun _ _ _ h => h) (Or.inl ⟨by rfl, (by intro w hSw; (try dsimp only at hSw); go_simp; try with_reducible rfl)⟩) (by assumption) ?_
        (try simp only [Act.put, List.setIfInBounds_toArray, List.set_cons_zero, List.set_cons_succ])
        refine wpAnyT_take (i := 6) (oi := { dst := (some 76), op := (Go.Op.fieldAddr 67 (Go.Operand.tmp 8) 1), type := 0, pos := "reg.go:84", after := #[], guard := none }) (v := ?_) rfl (by kernel_rfl) (by kernel_rfl) (by kernel_rfl) (by kernel_rfl) (fun _ _ _ h => h) (Or.inl ⟨by rfl, (by intro w hSw; (try dsimp only at hSw); go_simp; try with_reducible rfl)⟩) (by assumption) ?_
        (try simp only [Act.put, List.setIfInBounds_toArray, List.set_cons_zero, List.set_cons_succ])
        refine wpAnyT_take (i := 7) (oi := { dst := (some 77), op := (Go.Op.load 26 (Go.Operand.tmp 76)), type := 26, pos := "reg.go:84", after := #[{ on := 6, ground := Go.Ground.data }], guard := none }) (v := ?_) rfl (by kernel_rfl) (by kernel_rfl) (by kernel_rfl) (by kernel_rfl) (fun _ _ _ h => h) (Or.inl ⟨by rfl, (by intro w hSw; (try dsimp only at hSw); go_simp; try with_reducible rfl)⟩) (by assumption) ?_
        (try simp only [Act.put, List.setIfInBounds_toArray, List.set_cons_zero, List.set_cons_succ])
        refine wpAnyT_take (i := 9) (oi := { dst := (some 79), op := (Go.Op.fieldAddr 67 (Go.Operand.tmp 11) 1), type := 0, pos := "reg.go:84", after := #[], guard := none }) (v := ?_) rfl (by kernel_rfl) (by kernel_rfl) (by kernel_rfl) (by kernel_rfl) (fun _ _ _ h => h) (Or.inl ⟨by rfl, (by intro w hSw; (try dsimp only at hSw); go_simp; try with_reducible rfl)⟩) (by assumption) ?_
        (try simp only [Act.put, List.setIfInBounds_toArray, List.set_cons_zero, List.set_cons_succ])
        refine wpAnyT_take (i := 10) (oi := { dst := (some 80), op := (Go.Op.load 26 (Go.Operand.tmp 79)), type := 26, pos := "reg.go:84", after := #[{ on := 9, ground := Go.Ground.data }], guard := none }) (v := ?_) rfl (by kernel_rfl) (by kernel_rfl) (by kernel_rfl) (by kernel_rfl) (fun _ _ _ h => h) (Or.inl ⟨by rfl, (by intro w hSw; (try dsimp only at hSw); go_simp; try with_reducible rfl)⟩) (by assumption) ?_
        (try simp only [Act.put, List.setIfInBounds_toArray, List.set_cons_zero, List.set_cons_succ])
        refine wpAnyT_take (i := 12) (oi := { dst := (some 82), op := (Go.Op.fieldAddr 67 (Go.Operand.tmp 8) 2), type := 0, pos := "reg.go:84", after := #[], guard := none }) (v := ?_) rfl (by kernel_rfl) (by kernel_rfl) (by kernel_rfl) (by kernel_rfl) (fun _ _ _ h => h) (Or.inl ⟨by rfl, (by intro w hSw; (try dsimp only at hSw); go_simp; try with_reducible rfl)⟩) (by assumption) ?_
        (try simp only [Act.put, List.setIfInBounds_toArray, List.set_cons_zero, List.set_cons_succ])
        refine wpAnyT_take (i := 13) (oi := { dst := (some 83), op := (Go.Op.load 26 (Go.Operand.tmp 82)), type := 26, pos := "reg.go:84", after := #[{ on := 12, ground := Go.Ground.data }], guard := none }) (v := ?_) rfl (by kernel_rfl) (by kernel_rfl) (by kernel_rfl) (by kernel_rfl) (fun _ _ _ h => h) (Or.inl ⟨by rfl, (by intro w hSw; (try dsimp only at hSw); go_simp; try with_reducible rfl)⟩) (by assumption) ?_
        (try simp only [Act.put, List.setIfInBounds_toArray, List.set_cons_zero, List.set_cons_succ])
        refine wpAnyT_take (i := 15) (oi := { dst := (some 85), op := (Go.Op.fieldAddr 67 (Go.Operand.tmp 11) 2), type := 0, pos := "reg.go:84", after := #[], guard := none }) (v := ?_) rfl (by kernel_rfl) (by kernel_rfl) (by kernel_rfl) (by kernel_rfl) (fun _ _ _ h => h) (Or.inl ⟨by rfl, (by intro w hSw; (try dsimp only at hSw); go_simp; try with_reducible rfl)⟩) (by assumption) ?_
        (try simp only [Act.put, List.setIfInBounds_toArray, List.set_cons_zero, List.set_cons_succ])
        refine wpAnyT_take (i := 16) (oi := { dst := (some 86), op := (Go.Op.load 26 (Go.Operand.tmp 85)), type := 26, pos := "reg.go:84", after := #[{ on := 15, ground := Go.Ground.data }], guard := none }) (v := ?_) rfl (by kernel_rfl) (by kernel_rfl) (by kernel_rfl) (by kernel_rfl) (fun _ _ _ h => h) (Or.inl ⟨by rfl, (by intro w hSw; (try dsimp only at hSw); go_simp; try with_reducible rfl)⟩) (by assumption) ?_
        (try simp only [Act.put, List.setIfInBounds_toArray, List.set_cons_zero, List.set_cons_succ])
        refine wpAnyT_one (i := 8) (o := { dst := (some 78), op := (Go.Op.call { callee := (Go.Callee.value (Go.Operand.func 48)), args := #[(Go.Operand.tmp 77)], argTypes := #[26] }), type := 26, pos := "reg.go:84", after := #[{ on := 7, ground := Go.Ground.data }, { on := 2, ground := Go.Ground.chain }], guard := none }) (by kernel_rfl) rfl (fun K hK => ?_)
        go_simp
        (go_at_call 48; refine (Clone_calls HPf.out (by omega)).mono ?_; rintro e w2 ⟨v2, rfl, ho2, hu2⟩; obtain ⟨A2, c2, rfl, _, _⟩ := Rp.own_slice ho2; have HO2 := As.mk ho2; have HP2 := As.mk (show Pure W.drew w2 from hu2); have HQ2 := As.mk (Rp.row_pure HQf.out HP2.out); clear ho2 hu2)
        refine hK.out _ _ (fun _ => by first | exact HSK.out _ HP5.out | exact HSK.out _ HP4.out | exact HSK.out _ HP3.out | exact HSK.out _ HP2.out | exact HSK.out _ (Upd.refl _ _)) (fun hHeld => ?_)
        replace hHeld := hHeld (by decide)
        clear hK K
        (try simp only [Act.put, List.setIfInBounds_toArray, List.set_cons_zero, List.set_cons_succ])
        refine wpAnyT_one (i := 11) (o := { dst := (some 81), op := (Go.Op.call { callee := (Go.Callee.builtin Go.Builtin.append), args := #[(Go.Operand.tmp 78), (Go.Operand.tmp 80)], argTypes := #[26, 26] }), type := 26, pos := "reg.go:84", after := #[{ on := 8, ground := Go.Ground.data }, { on := 10, ground := Go.Ground.data }, { on := 8, ground := Go.Ground.chain }], guard := none }) (by kernel_rfl) rfl (fun K hK => ?_)
        refine Rp.step_append_row intR (c := cq) HO2.out (Rp.row'_of HQ2.out (fun _ _ h => h)) (Fz := fun _ => False) (fun _ h => h.elim) (by rfl) _ _ 26 (.int .i64 0) 8 (by rfl) Try.underlying26 int_info rfl (by decide) (by decide) (by rfl) (by rfl) (by omega) ?_; intro v3 w3 ho3 hu3 hat3; obtain ⟨A3, c3, rfl, _, _⟩ := Rp.own_slice ho3; have HP3 := As.mk (show Pure W.drew w3 from Upd.trans HP2.out hu3 (fun k hk h => by have := (Rp.own_block_lt HO2.out k h).1; omega)); have HO3 := As.mk (int_own_fp' (G := fun k => W.drew.heap.size ≤ k) ho3 (fun k hk => by rcases hat3 with h | ⟨b, hb, hle⟩; exact (Rp.own_block_lt HO2.out k (h ▸ hk)).1; rw [hb] at hk; injection hk with hk; have := HP2.out.size; omega)); clear ho3 hu3 hat3
        refine hK.out _ _ (fun _ => by first | exact HSK.out _ HP5.out | exact HSK.out _ HP4.out | exact HSK.out _ HP3.out | exact HSK.out _ HP2.out | exact HSK.out _ (Upd.refl _ _)) (fun hHeld => ?_)
        replace hHeld := hHeld (by decide)
        clear hK K
        (try simp only [Act.put, List.setIfInBounds_toArray, List.set_cons_zero, List.set_cons_succ])
        refine wpAnyT_one (i := 14) (o := { dst := (some 84), op := (Go.Op.call { callee := (Go.Callee.value (Go.Operand.func 48)), args := #[(Go.Operand.tmp 83)], argTypes := #[26] }), type := 26, pos := "reg.go:84", after := #[{ on := 13, ground := Go.Ground.data }, { on := 11, ground := Go.Ground.chain }], guard := none }) (by kernel_rfl) rfl (fun K hK => ?_)
        go_simp
        (go_at_call 48; refine (Clone_calls (Rp.row_pure HPl.out HP3.out) (by omega)).mono ?_; rintro e w4 ⟨v4, rfl, ho4, hu4⟩; obtain ⟨A4, c4, rfl, _, _⟩ := Rp.own_slice ho4; have HO4 := As.mk ho4; have HU4 := As.mk hu4; have HP4 := As.mk (show Pure W.drew w4 from HP3.out.trans hu4 (fun _ _ h => h)); have HQ4 := As.mk (Rp.row_pure HQl.out HP4.out); clear ho4 hu4)
        refine hK.out _ _ (fun _ => by first | exact HSK.out _ HP5.out | exact HSK.out _ HP4.out | exact HSK.out _ HP3.out | exact HSK.out _ HP2.out | exact HSK.out _ (Upd.refl _ _)) (fun hHeld => ?_)
        replace hHeld := hHeld (by decide)
        clear hK K
        (try simp only [Act.put, List.setIfInBounds_toArray, List.set_cons_zero, List.set_cons_succ])
        refine wpAnyT_one (i := 17) (o := { dst := (some 87), op := (Go.Op.call { callee := (Go.Callee.builtin Go.Builtin.append), args := #[(Go.Operand.tmp 84), (Go.Operand.tmp 86)], argTypes := #[26, 26] }), type := 26, pos := "reg.go:84", after := #[{ on := 14, ground := Go.Ground.data }, { on := 16, ground := Go.Ground.data }, { on := 14, ground := Go.Ground.chain }], guard := none }) (by kernel_rfl) rfl (fun K hK => ?_)
        refine Rp.step_append_row intR (c := cr) HO4.out (Rp.row'_of HQ4.out (fun _ _ h => h)) (Fz := fun _ => False) (fun _ h => h.elim) (by rfl) _ _ 26 (.int .i64 0) 8 (by rfl) Try.underlying26 int_info rfl (by decide) (by decide) (by rfl) (by rfl) (by omega) ?_; intro v5 w5 ho5 hu5 hat5; obtain ⟨A5, c5, rfl, _, _⟩ := Rp.own_slice ho5; have HP5 := As.mk (show Pure W.drew w5 from Upd.trans HP4.out hu5 (fun k hk h => by have := (Rp.own_block_lt HO4.out k h).1; have := HP3.out.size; omega)); have HO5 := As.mk (int_own_fp' (G := fun k => w3.heap.size ≤ k) ho5 (fun k hk => by rcases hat5 with h | ⟨b, hb, hle⟩; exact (Rp.own_block_lt HO4.out k (h ▸ hk)).1; rw [hb] at hk; injection hk with hk; have := HU4.out.size; omega)); have HO6 := As.mk (Rp.own_upd (Rp.own_upd (int_own_fp HO3.out) HU4.out (fun _ _ _ h => h)) hu5 (fun k _ hk he => by have h1 := (Rp.own_block_lt HO4.out k he).1; have h2 := (Rp.own_block_lt HO3.out k hk).2; omega)); have HS35 := As.mk (Nat.le_trans HU4.out.size hu5.size); clear ho5 hu5 hat5
        refine hK.out _ _ (fun _ => by first | exact HSK.out _ HP5.out | exact HSK.out _ HP4.out | exact HSK.out _ HP3.out | exact HSK.out _ HP2.out | exact HSK.out _ (Upd.refl _ _)) (fun hHeld => ?_)
        replace hHeld := hHeld (by decide)
        clear hK K
        (try simp only [Act.put, List.setIfInBounds_toArray, List.set_cons_zero, List.set_cons_succ])
        refine wpAnyT_take (i := 18) (oi := { dst := (some 88), op := (Go.Op.build 67 #[(0, (Go.Operand.tmp 75)), (1, (Go.Operand.tmp 81)), (2, (Go.Operand.tmp 87))]), type := 67, pos := "reg.go:84", after := #[{ on := 5, ground := Go.Ground.data }, { on := 11, ground := Go.Ground.data }, { on := 17, ground := Go.Ground.data }], guard := none }) (v := ?_) rfl (by kernel_rfl) (by kernel_rfl) (by kernel_rfl) (by kernel_rfl) (fun _ _ _ h => h) (Or.inl ⟨by rfl, (by intro w hSw; (try dsimp only at hSw); go_simp; try with_reducible rfl)⟩) (by assumption) ?_
        (try simp only [Act.put, List.setIfInBounds_toArray, List.set_cons_zero, List.set_cons_succ])
        refine wpAnyT_one (i := 19) (o := { dst := none, op := (Go.Op.store 67 (Go.Operand.tmp 8) (Go.Operand.tmp 88)), type := 0, pos := "reg.go:84", after := #[{ on := 18, ground := Go.Ground.data }, { on := 17, ground := Go.Ground.chain }, { on := 0, ground := Go.Ground.phase }, { on := 1, ground := Go.Ground.phase }, { on := 2, ground := Go.Ground.phase }, { on := 3, ground := Go.Ground.phase }, { on := 4, ground := Go.Ground.phase }, { on := 5, ground := Go.Ground.phase }, { on := 6, ground := Go.Ground.phase }, { on := 7, ground := Go.Ground.phase }, { on := 8, ground := Go.Ground.phase }, { on := 9, ground := Go.Ground.phase }, { on := 10, ground := Go.Ground.phase }, { on := 11, ground := Go.Ground.phase }, { on := 12, ground := Go.Ground.phase }, { on := 13, ground := Go.Ground.phase }, { on := 14, ground := Go.Ground.phase }, { on := 15, ground := Go.Ground.phase }, { on := 16, ground := Go.Ground.phase }, { on := 17, ground := Go.Ground.phase }, { on := 18, ground := Go.Ground.phase }], guard := none }) (by kernel_rfl) rfl (fun K hK => ?_)
        go_simp
        refine hK.out _ _ (fun h => absurd rfl h) (fun hHeld => ?_)
        clear hK K
        (try simp only [Act.put, List.setIfInBounds_toArray, List.set_cons_zero, List.set_cons_succ])
        refine wpAnyT_done (by kernel_rfl) ?_ _
        have HPW5 : As (Pure w1 w5) := ⟨HPW1.out.trans HP5.out (fun _ _ h => h)⟩
        have hw5 := HPW5.out.size
        have hw35 := HS35.out
        have hw23 := HP3.out.size
        have HPB5 : As (w5.heap[w.heap.size + 2]? = some (.cells #[.bool false, .slice Af pf.length cf, .slice Al pl.length cl] 67 (0, 0))) := ⟨(HP5.out.block _ pl3 (fun h => h)).trans HPB0.out⟩
        have HRB5 : As (w5.heap[w.heap.size + 1]? = some (.cells #[.bool false, .slice none 0 0, .slice none 0 0] 67 (0, 0))) := ⟨(HP5.out.block _ (by omega) (fun h => h)).trans HRB0.out⟩
        obtain ⟨A3', c3', e3, _, hr3⟩ := Rp.own_slice HO6.out
        simp at e3
        obtain ⟨rfl, rfl⟩ := e3
        obtain ⟨A5', c5', e5, _, hr5⟩ := Rp.own_slice (int_own_fp HO5.out)
        simp at e5
        obtain ⟨rfl, rfl⟩ := e5
        have HRW3 := As.mk hr3
        have HRW5 := As.mk hr5
        replace HO5 := As.mk (And.intro (fun q hq => (Rp.own_block_lt HO5.out q hq).1) HO5.out)
        have HFIN : As (Upd M w (((w5.setCell ⟨w.heap.size + 2, 0, none⟩ (.bool (glu g x s).2.none)).setCell ⟨w.heap.size + 2, 1, none⟩ (.slice A3 (pf.length + (glu g x s).2.first.length) c3)).setCell ⟨w.heap.size + 2, 2, none⟩ (.slice A5 (pl.length + (glu g x s).2.last.length) c5))) := ⟨by
          have hu := (Upd.trans (Upd.trans (HU01.out.mono (S' := fun k => M' k ∨ k = w.heap.size + 2) (fun _ _ h => .inl h)) HP5.out (fun _ _ h => h.elim)) ((set3_upd w5 (w.heap.size + 2) (.bool (glu g x s).2.none) (.slice A3 (pf.length + (glu g x s).2.first.length) c3) (.slice A5 (pl.length + (glu g x s).2.last.length) c5)).mono (S' := fun k => M' k ∨ k = w.heap.size + 2) (fun _ _ h => .inr h)) (S := fun k => M' k ∨ k = w.heap.size + 2) (fun _ _ h => h))
          refine Upd.trans HU2.out hu (fun q hq h => ?_)
          rcases h with h | rfl
          · rcases HM2.out q h with h | h
            · exact h
            · omega
          · omega⟩
        clear hr3 hr5
        go_wp2
        go_roundg g1
        case measure => omega
        case rel =>
          refine ⟨k + 1, by have := HK.out; omega, by go_num, ⟨M1, tv1, fv1, vs1, (glu g x s).1, ⟨false || (glu g x s).2.none, pf ++ (glu g x s).2.first, pl ++ (glu g x s).2.last⟩, A3, c3, A5, c5, ?_, ?_, HQB.out.len HLN.out, ?_, ?_, fun q hq => HGG.out.1 q (HM1.out q hq), ?_, ?_, ?_, ?_, ?_, ?_⟩⟩
          · rw [← HCC.out, HDX.out, gluAlt]
          · rw [HCX.out]
            exact Bd.next HBD.out HQB.out (glu g x s).1 rfl rfl _ ⟨fun a ha => List.mem_append.1 ha, fun a ha => List.mem_append.1 ha, by simp, by simp⟩
          · intro y hy
            have := glu_fb g x s (1000000000 - 80000 * Ex.cnts (l.drop k)) (fun z hz => by have := HFB2.out z hz; omega) (by omega) y hy
            omega
          · exact (HMM.out.pure HPW5.out).upd (set3_upd w5 (w.heap.size + 2) _ _ _) (fun q _ hq => by subst hq; exact ⟨by have := HM.out.low mb HM.out.mbM; omega, HPBM.out⟩)
          · exact HM12.out
          · have := set3 HPB5.out (.bool (glu g x s).2.none) (.slice A3 (pf.length + (glu g x s).2.first.length) c3) (.slice A5 (pl.length + (glu g x s).2.last.length) c5)
            simp only [List.length_append, Bool.false_or, Bool.true_or]
            exact this
          · exact ((set3_upd w5 (w.heap.size + 2) _ _ _).block _ (by have := HPW5.out.size; omega) (by omega)).trans HRB5.out
          · refine Rp.row_fp (Rp.row_upd (HRW3.out) (set3_upd w5 (w.heap.size + 2) _ _ _) (fun q _ hq he => ?_)) (fun q hq => ?_)
            · have := (Rp.own_block_lt HO3.out q hq).1; omega
            · have h1 := (Rp.own_block_lt HO3.out q hq).1
              exact ⟨by omega, fun hM => by have := (HMM.out.low q hM).2; omega⟩
          · refine Rp.row_fp (Rp.row_upd (HRW5.out) (set3_upd w5 (w.heap.size + 2) _ _ _) (fun q _ hq he => ?_)) (fun q hq => ?_)
            · have := HO5.out.1 q hq; omega
            · have h1 := HO5.out.1 q hq
              exact ⟨by omega, fun hM => by have := (HMM.out.low q hM).2; omega⟩
          · exact HFIN.out
      · generalize hW : w1.alloc (.cells #[.bool (glu g x s).2.none, .slice Aq (glu g x s).2.first.length cq, .slice Ar (glu g x s).2.last.length cr] 67) = W
        have HPW1 : As (Pure w1 W.drew) := ⟨hW ▸ (Upd.alloc1 (fun _ => False) w1 _).drew⟩
        have hWs : W.drew.heap.size = w1.heap.size + 1 := by subst hW; simp
        have hqb : W.drew.heap[w1.heap.size]? = some (.cells #[.bool (glu g x s).2.none, .slice Aq (glu g x s).2.first.length cq, .slice Ar (glu g x s).2.last.length cr] 67 (0, 0)) := by subst hW; exact heap_alloc_new w1 _
        clear hW
        have hlow0 := HM.out.low mb HM.out.mbM
        have hw01 := HU2.out.size
        have hw12 : wr.heap.size + 1 ≤ w1.heap.size := by have := HU1.out.size; simpa using this
        have hnpM : ¬ M' (w.heap.size + 2) := fun h => by rcases HM2.out _ h with h | h; (have := (HM.out.low _ h).2; omega); omega
        have hnrM : ¬ M' (w.heap.size + 1) := fun h => by rcases HM2.out _ h with h | h; (have := (HM.out.low _ h).2; omega); omega
        have HU01 : As (Upd M' wr W.drew) := ⟨Upd.trans (Upd.trans (Upd.alloc1 M' wr _) HU1.out (fun _ _ h => h)) HPW1.out (fun _ _ h => h.elim)⟩
        have hpb : W.drew.heap[w.heap.size + 2]? = some (.cells #[.bool true, .slice Af pf.length cf, .slice Al pl.length cl] 67 (0, 0)) := (HU01.out.block _ hprl hnpM).trans HPB.out
        have hrb : W.drew.heap[w.heap.size + 1]? = some (.cells #[.bool false, .slice none 0 0, .slice none 0 0] 67 (0, 0)) := (HU01.out.block _ (by omega) hnrM).trans HRB.out
        have HPf := As.mk (Rp.row_upd HF2.out HU01.out (fun _ _ h => h.2))
        have HPl := As.mk (Rp.row_upd HL2.out HU01.out (fun _ _ h => h.2))
        have HQf := As.mk (Rp.row_pure HQF.out HPW1.out)
        have HQl := As.mk (Rp.row_pure HQL.out HPW1.out)
        have HM12 : As (∀ q, M1 q → M q ∨ w.heap.size + 3 ≤ q) := ⟨fun q hq => by
          rcases HGG.out.2 q hq with h | h
          · exact HM2.out q h
          · have h1 := h.1
            simp at h1
            omega⟩
        have HPBM : As (¬ M1 (w.heap.size + 2)) := ⟨fun h => by rcases HM12.out _ h with h | h; (have := (HM.out.low _ h).2; omega); omega⟩
        have HPB0 := As.mk hpb
        have HRB0 := As.mk hrb
        obtain ⟨⟨pc0, pc1, pc2⟩, pg0, pg1, pg2, pl3⟩ := cells3 hpb
        obtain ⟨⟨qc0, qc1, qc2⟩, _, _, _, ql3⟩ := cells3 hqb
        clear hpb hrb hqb
        have HSK : As (∀ v, Pure W.drew v → v.cell? ⟨w.heap.size + 2, 0, none⟩ = some (.bool true) ∧ v.cell? ⟨w.heap.size + 2, 1, none⟩ = some (.slice Af pf.length cf) ∧ v.cell? ⟨w.heap.size + 2, 2, none⟩ = some (.slice Al pl.length cl) ∧ v.cell? ⟨w1.heap.size, 0, none⟩ = some (.bool (glu g x s).2.none) ∧ v.cell? ⟨w1.heap.size, 1, none⟩ = some (.slice Aq (glu g x s).2.first.length cq) ∧ v.cell? ⟨w1.heap.size, 2, none⟩ = some (.slice Ar (glu g x s).2.last.length cr) ∧ v.frozen? ⟨w.heap.size + 2, 0, none⟩ = false ∧ v.frozen? ⟨w.heap.size + 2, 1, none⟩ = false ∧ v.frozen? ⟨w.heap.size + 2, 2, none⟩ = false) := ⟨fun v hv => ⟨(hv.cell pl3 (fun h => h)).trans pc0, (hv.cell pl3 (fun h => h)).trans pc1, (hv.cell pl3 (fun h => h)).trans pc2, (hv.cell ql3 (fun h => h)).trans qc0, (hv.cell ql3 (fun h => h)).trans qc1, (hv.cell ql3 (fun h => h)).trans qc2, (hv.frozen pl3 (fun h => h)).trans pg0, (hv.frozen pl3 (fun h => h)).trans pg1, (hv.frozen pl3 (fun h => h)).trans pg2⟩⟩
        clear pc0 pc1 pc2 qc0 qc1 qc2 pg0 pg1 pg2
        refine wp_region_T (P := Try.prog) (fun v => v.cell? ⟨w.heap.size + 2, 0, none⟩ = some (.bool true) ∧ v.cell? ⟨w.heap.size + 2, 1, none⟩ = some (.slice Af pf.length cf) ∧ v.cell? ⟨w.heap.size + 2, 2, none⟩ = some (.slice Al pl.length cl) ∧ v.cell? ⟨w1.heap.size, 0, none⟩ = some (.bool (glu g x s).2.none) ∧ v.cell? ⟨w1.heap.size, 1, none⟩ = some (.slice Aq (glu g x s).2.first.length cq) ∧ v.cell? ⟨w1.heap.size, 2, none⟩ = some (.slice Ar (glu g x s).2.last.length cr) ∧ v.frozen? ⟨w.heap.size + 2, 0, none⟩ = false ∧ v.frozen? ⟨w.heap.size + 2, 1, none⟩ = false ∧ v.frozen? ⟨w.heap.size + 2, 2, none⟩ = false) 19 (by kernel_rfl) ?_ (fun hHeld => ?_)
        · first | exact HSK.out _ HP5.out | exact HSK.out _ HP4.out | exact HSK.out _ HP3.out | exact HSK.out _ HP2.out | exact HSK.out _ (Upd.refl _ _)
        refine wpAnyT_take (i := 0) (oi := { dst := (some 70), op := (Go.Op.fieldAddr 67 (Go.Operand.tmp 8) 0), type := 0, pos := "reg.go:84", after := #[], guard := none }) (v := ?_) rfl (by kernel_rfl) (by kernel_rfl) (by kernel_rfl) (by kernel_rfl) (fun _ _ _ h => h) (Or.inl ⟨by rfl, (by intro w hSw; (try dsimp only at hSw); go_simp; try with_reducible rfl)⟩) (by assumption) ?_
        (try simp only [Act.put, List.setIfInBounds_toArray, List.set_cons_zero, List.set_cons_succ])
        refine wpAnyT_take (i := 1) (oi := { dst := (some 71), op := (Go.Op.load 4 (Go.Operand.tmp 70)), type := 4, pos := "reg.go:84", after := #[{ on := 0, ground := Go.Ground.data }], guard := none }) (v := ?_) rfl (by kernel_rfl) (by kernel_rfl) (by kernel_rfl) (by kernel_rfl) (fun _ _ _ h => h) (Or.inl ⟨by rfl, (by intro w hSw; (try dsimp only at hSw); go_simp; try with_reducible rfl)⟩) (by assumption) ?_
        (try simp only [Act.put, List.setIfInBounds_toArray, List.set_cons_zero, List.set_cons_succ])
        refine wpAnyT_take (i := 2) (oi := { dst := (some 72), op := (Go.Op.move (Go.Operand.tmp 71)), type := 4, pos := "reg.go:84", after := #[{ on := 1, ground := Go.Ground.data }], guard := none }) (v := ?_) rfl (by kernel_rfl) (by kernel_rfl) (by kernel_rfl) (by kernel_rfl) (fun _ _ _ h => h) (Or.inl ⟨by rfl, (by intro w hSw; (try dsimp only at hSw); go_simp; try with_reducible rfl)⟩) (by assumption) ?_
        (try simp only [Act.put, List.setIfInBounds_toArray, List.set_cons_zero, List.set_cons_succ])
        refine wpAnyT_take (i := 3) (oi := { dst := (some 73), op := (Go.Op.fieldAddr 67 (Go.Operand.tmp 11) 0), type := 0, pos := "reg.go:84", after := #[{ on := 2, ground := Go.Ground.guard }], guard := (some (2, false)) }) (v := undef) rfl (by kernel_rfl) (by kernel_rfl) (by kernel_rfl) (by kernel_rfl) (fun _ _ _ h => h) (Or.inr ⟨by rfl, rfl⟩) (by assumption) ?_
        (try simp only [Act.put, List.setIfInBounds_toArray, List.set_cons_zero, List.set_cons_succ])
        refine wpAnyT_take (i := 4) (oi := { dst := (some 74), op := (Go.Op.load 4 (Go.Operand.tmp 73)), type := 4, pos := "reg.go:84", after := #[{ on := 3, ground := Go.Ground.data }, { on := 2, ground := Go.Ground.guard }], guard := (some (2, false)) }) (v := undef) rfl (by kernel_rfl) (by kernel_rfl) (by kernel_rfl) (by kernel_rfl) (fun _ _ _ h => h) (Or.inr ⟨by rfl, rfl⟩) (by assumption) ?_
        (try simp only [Act.put, List.setIfInBounds_toArray, List.set_cons_zero, List.set_cons_succ])
        refine wpAnyT_take (i := 5) (oi := { dst := (some 75), op := (Go.Op.pick (Go.Operand.tmp 72) (Go.Operand.const (Go.Value.bool true)) (Go.Operand.tmp 74)), type := 4, pos := "reg.go:84", after := #[{ on := 2, ground := Go.Ground.data }, { on := 4, ground := Go.Ground.data }], guard := none }) (v := ?_) rfl (by kernel_rfl) (by kernel_rfl) (by kernel_rfl) (by kernel_rfl) (fun _ _ _ h => h) (Or.inl ⟨by rfl, (by intro w hSw; (try dsimp only at hSw); go_simp; try with_reducible rfl)⟩) (by assumption) ?_
        (try simp only [Act.put, List.setIfInBounds_toArray, List.set_cons_zero, List.set_cons_succ])
        refine wpAnyT_take (i := 6) (oi := { dst := (some 76), op := (Go.Op.fieldAddr 67 (Go.Operand.tmp 8) 1), type := 0, pos := "reg.go:84", after := #[], guard := none }) (v := ?_) rfl (by kernel_rfl) (by kernel_rfl) (by kernel_rfl) (by kernel_rfl) (fun _ _ _ h => h) (Or.inl ⟨by rfl, (by intro w hSw; (try dsimp only at hSw); go_simp; try with_reducible rfl)⟩) (by assumption) ?_
        (try simp only [Act.put, List.setIfInBounds_toArray, List.set_cons_zero, List.set_cons_succ])
        refine wpAnyT_take (i := 7) (oi := { dst := (some 77), op := (Go.Op.load 26 (Go.Operand.tmp 76)), type := 26, pos := "reg.go:84", after := #[{ on := 6, ground := Go.Ground.data }], guard := none }) (v := ?_) rfl (by kernel_rfl) (by kernel_rfl) (by kernel_rfl) (by kernel_rfl) (fun _ _ _ h => h) (Or.inl ⟨by rfl, (by intro w hSw; (try dsimp only at hSw); go_simp; try with_reducible rfl)⟩) (by assumption) ?_
        (try simp only [Act.put, List.setIfInBounds_toArray, List.set_cons_zero, List.set_cons_succ])
        refine wpAnyT_take (i := 9) (oi := { dst := (some 79), op := (Go.Op.fieldAddr 67 (Go.Operand.tmp 11) 1), type := 0, pos := "reg.go:84", after := #[], guard := none }) (v := ?_) rfl (by kernel_rfl) (by kernel_rfl) (by kernel_rfl) (by kernel_rfl) (fun _ _ _ h => h) (Or.inl ⟨by rfl, (by intro w hSw; (try dsimp only at hSw); go_simp; try with_reducible rfl)⟩) (by assumption) ?_
        (try simp only [Act.put, List.setIfInBounds_toArray, List.set_cons_zero, List.set_cons_succ])
        refine wpAnyT_take (i := 10) (oi := { dst := (some 80), op := (Go.Op.load 26 (Go.Operand.tmp 79)), type := 26, pos := "reg.go:84", after := #[{ on := 9, ground := Go.Ground.data }], guard := none }) (v := ?_) rfl (by kernel_rfl) (by kernel_rfl) (by kernel_rfl) (by kernel_rfl) (fun _ _ _ h => h) (Or.inl ⟨by rfl, (by intro w hSw; (try dsimp only at hSw); go_simp; try with_reducible rfl)⟩) (by assumption) ?_
        (try simp only [Act.put, List.setIfInBounds_toArray, List.set_cons_zero, List.set_cons_succ])
        refine wpAnyT_take (i := 12) (oi := { dst := (some 82), op := (Go.Op.fieldAddr 67 (Go.Operand.tmp 8) 2), type := 0, pos := "reg.go:84", after := #[], guard := none }) (v := ?_) rfl (by kernel_rfl) (by kernel_rfl) (by kernel_rfl) (by kernel_rfl) (fun _ _ _ h => h) (Or.inl ⟨by rfl, (by intro w hSw; (try dsimp only at hSw); go_simp; try with_reducible rfl)⟩) (by assumption) ?_
        (try simp only [Act.put, List.setIfInBounds_toArray, List.set_cons_zero, List.set_cons_succ])
        refine wpAnyT_take (i := 13) (oi := { dst := (some 83), op := (Go.Op.load 26 (Go.Operand.tmp 82)), type := 26, pos := "reg.go:84", after := #[{ on := 12, ground := Go.Ground.data }], guard := none }) (v := ?_) rfl (by kernel_rfl) (by kernel_rfl) (by kernel_rfl) (by kernel_rfl) (fun _ _ _ h => h) (Or.inl ⟨by rfl, (by intro w hSw; (try dsimp only at hSw); go_simp; try with_reducible rfl)⟩) (by assumption) ?_
        (try simp only [Act.put, List.setIfInBounds_toArray, List.set_cons_zero, List.set_cons_succ])
        refine wpAnyT_take (i := 15) (oi := { dst := (some 85), op := (Go.Op.fieldAddr 67 (Go.Operand.tmp 11) 2), type := 0, pos := "reg.go:84", after := #[], guard := none }) (v := ?_) rfl (by kernel_rfl) (by kernel_rfl) (by kernel_rfl) (by kernel_rfl) (fun _ _ _ h => h) (Or.inl ⟨by rfl, (by intro w hSw; (try dsimp only at hSw); go_simp; try with_reducible rfl)⟩) (by assumption) ?_
        (try simp only [Act.put, List.setIfInBounds_toArray, List.set_cons_zero, List.set_cons_succ])
        refine wpAnyT_take (i := 16) (oi := { dst := (some 86), op := (Go.Op.load 26 (Go.Operand.tmp 85)), type := 26, pos := "reg.go:84", after := #[{ on := 15, ground := Go.Ground.data }], guard := none }) (v := ?_) rfl (by kernel_rfl) (by kernel_rfl) (by kernel_rfl) (by kernel_rfl) (fun _ _ _ h => h) (Or.inl ⟨by rfl, (by intro w hSw; (try dsimp only at hSw); go_simp; try with_reducible rfl)⟩) (by assumption) ?_
        (try simp only [Act.put, List.setIfInBounds_toArray, List.set_cons_zero, List.set_cons_succ])
        refine wpAnyT_one (i := 8) (o := { dst := (some 78), op := (Go.Op.call { callee := (Go.Callee.value (Go.Operand.func 48)), args := #[(Go.Operand.tmp 77)], argTypes := #[26] }), type := 26, pos := "reg.go:84", after := #[{ on := 7, ground := Go.Ground.data }, { on := 2, ground := Go.Ground.chain }], guard := none }) (by kernel_rfl) rfl (fun K hK => ?_)
        go_simp
        (go_at_call 48; refine (Clone_calls HPf.out (by omega)).mono ?_; rintro e w2 ⟨v2, rfl, ho2, hu2⟩; obtain ⟨A2, c2, rfl, _, _⟩ := Rp.own_slice ho2; have HO2 := As.mk ho2; have HP2 := As.mk (show Pure W.drew w2 from hu2); have HQ2 := As.mk (Rp.row_pure HQf.out HP2.out); clear ho2 hu2)
        refine hK.out _ _ (fun _ => by first | exact HSK.out _ HP5.out | exact HSK.out _ HP4.out | exact HSK.out _ HP3.out | exact HSK.out _ HP2.out | exact HSK.out _ (Upd.refl _ _)) (fun hHeld => ?_)
        replace hHeld := hHeld (by decide)
        clear hK K
        (try simp only [Act.put, List.setIfInBounds_toArray, List.set_cons_zero, List.set_cons_succ])
        refine wpAnyT_one (i := 11) (o := { dst := (some 81), op := (Go.Op.call { callee := (Go.Callee.builtin Go.Builtin.append), args := #[(Go.Operand.tmp 78), (Go.Operand.tmp 80)], argTypes := #[26, 26] }), type := 26, pos := "reg.go:84", after := #[{ on := 8, ground := Go.Ground.data }, { on := 10, ground := Go.Ground.data }, { on := 8, ground := Go.Ground.chain }], guard := none }) (by kernel_rfl) rfl (fun K hK => ?_)
        refine Rp.step_append_row intR (c := cq) HO2.out (Rp.row'_of HQ2.out (fun _ _ h => h)) (Fz := fun _ => False) (fun _ h => h.elim) (by rfl) _ _ 26 (.int .i64 0) 8 (by rfl) Try.underlying26 int_info rfl (by decide) (by decide) (by rfl) (by rfl) (by omega) ?_; intro v3 w3 ho3 hu3 hat3; obtain ⟨A3, c3, rfl, _, _⟩ := Rp.own_slice ho3; have HP3 := As.mk (show Pure W.drew w3 from Upd.trans HP2.out hu3 (fun k hk h => by have := (Rp.own_block_lt HO2.out k h).1; omega)); have HO3 := As.mk (int_own_fp' (G := fun k => W.drew.heap.size ≤ k) ho3 (fun k hk => by rcases hat3 with h | ⟨b, hb, hle⟩; exact (Rp.own_block_lt HO2.out k (h ▸ hk)).1; rw [hb] at hk; injection hk with hk; have := HP2.out.size; omega)); clear ho3 hu3 hat3
        refine hK.out _ _ (fun _ => by first | exact HSK.out _ HP5.out | exact HSK.out _ HP4.out | exact HSK.out _ HP3.out | exact HSK.out _ HP2.out | exact HSK.out _ (Upd.refl _ _)) (fun hHeld => ?_)
        replace hHeld := hHeld (by decide)
        clear hK K
        (try simp only [Act.put, List.setIfInBounds_toArray, List.set_cons_zero, List.set_cons_succ])
        refine wpAnyT_one (i := 14) (o := { dst := (some 84), op := (Go.Op.call { callee := (Go.Callee.value (Go.Operand.func 48)), args := #[(Go.Operand.tmp 83)], argTypes := #[26] }), type := 26, pos := "reg.go:84", after := #[{ on := 13, ground := Go.Ground.data }, { on := 11, ground := Go.Ground.chain }], guard := none }) (by kernel_rfl) rfl (fun K hK => ?_)
        go_simp
        (go_at_call 48; refine (Clone_calls (Rp.row_pure HPl.out HP3.out) (by omega)).mono ?_; rintro e w4 ⟨v4, rfl, ho4, hu4⟩; obtain ⟨A4, c4, rfl, _, _⟩ := Rp.own_slice ho4; have HO4 := As.mk ho4; have HU4 := As.mk hu4; have HP4 := As.mk (show Pure W.drew w4 from HP3.out.trans hu4 (fun _ _ h => h)); have HQ4 := As.mk (Rp.row_pure HQl.out HP4.out); clear ho4 hu4)
        refine hK.out _ _ (fun _ => by first | exact HSK.out _ HP5.out | exact HSK.out _ HP4.out | exact HSK.out _ HP3.out | exact HSK.out _ HP2.out | exact HSK.out _ (Upd.refl _ _)) (fun hHeld => ?_)
        replace hHeld := hHeld (by decide)
        clear hK K
        (try simp only [Act.put, List.setIfInBounds_toArray, List.set_cons_zero, List.set_cons_succ])
        refine wpAnyT_one (i := 17) (o := { dst := (some 87), op := (Go.Op.call { callee := (Go.Callee.builtin Go.Builtin.append), args := #[(Go.Operand.tmp 84), (Go.Operand.tmp 86)], argTypes := #[26, 26] }), type := 26, pos := "reg.go:84", after := #[{ on := 14, ground := Go.Ground.data }, { on := 16, ground := Go.Ground.data }, { on := 14, ground := Go.Ground.chain }], guard := none }) (by kernel_rfl) rfl (fun K hK => ?_)
        refine Rp.step_append_row intR (c := cr) HO4.out (Rp.row'_of HQ4.out (fun _ _ h => h)) (Fz := fun _ => False) (fun _ h => h.elim) (by rfl) _ _ 26 (.int .i64 0) 8 (by rfl) Try.underlying26 int_info rfl (by decide) (by decide) (by rfl) (by rfl) (by omega) ?_; intro v5 w5 ho5 hu5 hat5; obtain ⟨A5, c5, rfl, _, _⟩ := Rp.own_slice ho5; have HP5 := As.mk (show Pure W.drew w5 from Upd.trans HP4.out hu5 (fun k hk h => by have := (Rp.own_block_lt HO4.out k h).1; have := HP3.out.size; omega)); have HO5 := As.mk (int_own_fp' (G := fun k => w3.heap.size ≤ k) ho5 (fun k hk => by rcases hat5 with h | ⟨b, hb, hle⟩; exact (Rp.own_block_lt HO4.out k (h ▸ hk)).1; rw [hb] at hk; injection hk with hk; have := HU4.out.size; omega)); have HO6 := As.mk (Rp.own_upd (Rp.own_upd (int_own_fp HO3.out) HU4.out (fun _ _ _ h => h)) hu5 (fun k _ hk he => by have h1 := (Rp.own_block_lt HO4.out k he).1; have h2 := (Rp.own_block_lt HO3.out k hk).2; omega)); have HS35 := As.mk (Nat.le_trans HU4.out.size hu5.size); clear ho5 hu5 hat5
        refine hK.out _ _ (fun _ => by first | exact HSK.out _ HP5.out | exact HSK.out _ HP4.out | exact HSK.out _ HP3.out | exact HSK.out _ HP2.out | exact HSK.out _ (Upd.refl _ _)) (fun hHeld => ?_)
        replace hHeld := hHeld (by decide)
        clear hK K
        (try simp only [Act.put, List.setIfInBounds_toArray, List.set_cons_zero, List.set_cons_succ])
        refine wpAnyT_take (i := 18) (oi := { dst := (some 88), op := (Go.Op.build 67 #[(0, (Go.Operand.tmp 75)), (1, (Go.Operand.tmp 81)), (2, (Go.Operand.tmp 87))]), type := 67, pos := "reg.go:84", after := #[{ on := 5, ground := Go.Ground.data }, { on := 11, ground := Go.Ground.data }, { on := 17, ground := Go.Ground.data }], guard := none }) (v := ?_) rfl (by kernel_rfl) (by kernel_rfl) (by kernel_rfl) (by kernel_rfl) (fun _ _ _ h => h) (Or.inl ⟨by rfl, (by intro w hSw; (try dsimp only at hSw); go_simp; try with_reducible rfl)⟩) (by assumption) ?_
        (try simp only [Act.put, List.setIfInBounds_toArray, List.set_cons_zero, List.set_cons_succ])
        refine wpAnyT_one (i := 19) (o := { dst := none, op := (Go.Op.store 67 (Go.Operand.tmp 8) (Go.Operand.tmp 88)), type := 0, pos := "reg.go:84", after := #[{ on := 18, ground := Go.Ground.data }, { on := 17, ground := Go.Ground.chain }, { on := 0, ground := Go.Ground.phase }, { on := 1, ground := Go.Ground.phase }, { on := 2, ground := Go.Ground.phase }, { on := 3, ground := Go.Ground.phase }, { on := 4, ground := Go.Ground.phase }, { on := 5, ground := Go.Ground.phase }, { on := 6, ground := Go.Ground.phase }, { on := 7, ground := Go.Ground.phase }, { on := 8, ground := Go.Ground.phase }, { on := 9, ground := Go.Ground.phase }, { on := 10, ground := Go.Ground.phase }, { on := 11, ground := Go.Ground.phase }, { on := 12, ground := Go.Ground.phase }, { on := 13, ground := Go.Ground.phase }, { on := 14, ground := Go.Ground.phase }, { on := 15, ground := Go.Ground.phase }, { on := 16, ground := Go.Ground.phase }, { on := 17, ground := Go.Ground.phase }, { on := 18, ground := Go.Ground.phase }], guard := none }) (by kernel_rfl) rfl (fun K hK => ?_)
        go_simp
        refine hK.out _ _ (fun h => absurd rfl h) (fun hHeld => ?_)
        clear hK K
        (try simp only [Act.put, List.setIfInBounds_toArray, List.set_cons_zero, List.set_cons_succ])
        refine wpAnyT_done (by kernel_rfl) ?_ _
        have HPW5 : As (Pure w1 w5) := ⟨HPW1.out.trans HP5.out (fun _ _ h => h)⟩
        have hw5 := HPW5.out.size
        have hw35 := HS35.out
        have hw23 := HP3.out.size
        have HPB5 : As (w5.heap[w.heap.size + 2]? = some (.cells #[.bool true, .slice Af pf.length cf, .slice Al pl.length cl] 67 (0, 0))) := ⟨(HP5.out.block _ pl3 (fun h => h)).trans HPB0.out⟩
        have HRB5 : As (w5.heap[w.heap.size + 1]? = some (.cells #[.bool false, .slice none 0 0, .slice none 0 0] 67 (0, 0))) := ⟨(HP5.out.block _ (by omega) (fun h => h)).trans HRB0.out⟩
        obtain ⟨A3', c3', e3, _, hr3⟩ := Rp.own_slice HO6.out
        simp at e3
        obtain ⟨rfl, rfl⟩ := e3
        obtain ⟨A5', c5', e5, _, hr5⟩ := Rp.own_slice (int_own_fp HO5.out)
        simp at e5
        obtain ⟨rfl, rfl⟩ := e5
        have HRW3 := As.mk hr3
        have HRW5 := As.mk hr5
        replace HO5 := As.mk (And.intro (fun q hq => (Rp.own_block_lt HO5.out q hq).1) HO5.out)
        have HFIN : As (Upd M w (((w5.setCell ⟨w.heap.size + 2, 0, none⟩ (.bool true)).setCell ⟨w.heap.size + 2, 1, none⟩ (.slice A3 (pf.length + (glu g x s).2.first.length) c3)).setCell ⟨w.heap.size + 2, 2, none⟩ (.slice A5 (pl.length + (glu g x s).2.last.length) c5))) := ⟨by
          have hu := (Upd.trans (Upd.trans (HU01.out.mono (S' := fun k => M' k ∨ k = w.heap.size + 2) (fun _ _ h => .inl h)) HP5.out (fun _ _ h => h.elim)) ((set3_upd w5 (w.heap.size + 2) (.bool true) (.slice A3 (pf.length + (glu g x s).2.first.length) c3) (.slice A5 (pl.length + (glu g x s).2.last.length) c5)).mono (S' := fun k => M' k ∨ k = w.heap.size + 2) (fun _ _ h => .inr h)) (S := fun k => M' k ∨ k = w.heap.size + 2) (fun _ _ h => h))
          refine Upd.trans HU2.out hu (fun q hq h => ?_)
          rcases h with h | rfl
          · rcases HM2.out q h with h | h
            · exact h
            · omega
          · omega⟩
        clear hr3 hr5
        go_wp2
        go_roundg g1
        case measure => omega
        case rel =>
          refine ⟨k + 1, by have := HK.out; omega, by go_num, ⟨M1, tv1, fv1, vs1, (glu g x s).1, ⟨true || (glu g x s).2.none, pf ++ (glu g x s).2.first, pl ++ (glu g x s).2.last⟩, A3, c3, A5, c5, ?_, ?_, HQB.out.len HLN.out, ?_, ?_, fun q hq => HGG.out.1 q (HM1.out q hq), ?_, ?_, ?_, ?_, ?_, ?_⟩⟩
          · rw [← HCC.out, HDX.out, gluAlt]
          · rw [HCX.out]
            exact Bd.next HBD.out HQB.out (glu g x s).1 rfl rfl _ ⟨fun a ha => List.mem_append.1 ha, fun a ha => List.mem_append.1 ha, by simp, by simp⟩
          · intro y hy
            have := glu_fb g x s (1000000000 - 80000 * Ex.cnts (l.drop k)) (fun z hz => by have := HFB2.out z hz; omega) (by omega) y hy
            omega
          · exact (HMM.out.pure HPW5.out).upd (set3_upd w5 (w.heap.size + 2) _ _ _) (fun q _ hq => by subst hq; exact ⟨by have := HM.out.low mb HM.out.mbM; omega, HPBM.out⟩)
          · exact HM12.out
          · have := set3 HPB5.out (.bool true) (.slice A3 (pf.length + (glu g x s).2.first.length) c3) (.slice A5 (pl.length + (glu g x s).2.last.length) c5)
            simp only [List.length_append, Bool.false_or, Bool.true_or]
            exact this
          · exact ((set3_upd w5 (w.heap.size + 2) _ _ _).block _ (by have := HPW5.out.size; omega) (by omega)).trans HRB5.out
          · refine Rp.row_fp (Rp.row_upd (HRW3.out) (set3_upd w5 (w.heap.size + 2) _ _ _) (fun q _ hq he => ?_)) (fun q hq => ?_)
            · have := (Rp.own_block_lt HO3.out q hq).1; omega
            · have h1 := (Rp.own_block_lt HO3.out q hq).1
              exact ⟨by omega, fun hM => by have := (HMM.out.low q hM).2; omega⟩
          · refine Rp.row_fp (Rp.row_upd (HRW5.out) (set3_upd w5 (w.heap.size + 2) _ _ _) (fun q _ hq he => ?_)) (fun q hq => ?_)
            · have := HO5.out.1 q hq; omega
            · have h1 := HO5.out.1 q hq
              exact ⟨by omega, fun hM => by have := (HMM.out.low q hM).2; omega⟩
          · exact HFIN.out
    · have hkl : k = l.length := by omega
      subst hkl
      rw [List.drop_length] at HC
      obtain ⟨Af, cf, Al, cl, hpb, hrb, hend⟩ := HC.out.done (by have := HM.out.low mb HM.out.mbM; omega) (fun k hk => (HM.out.low k hk).2) (fun s p => by rw [gluAlt])
      obtain ⟨⟨p0, p1, p2⟩, _, _, _, _⟩ := cells3 hpb
      obtain ⟨⟨r0, r1, r2⟩, f0, f1, f2, _⟩ := cells3 hrb
      have HE := As.mk hend
      rw [← HV.out] at HE p0 p1 p2
      clear hpb hrb hend HC
      go_wp2
      obtain ⟨he1, he2⟩ := HE.out _ rfl
      exact build_ret (rb := w.heap.size + 1) rfl he1 rfl he2
end Go.Proofs.Ytchgeaklaeoplaa
