/- nest: a place, a step told, the items that are open, the innermost. -/
import Derived.Test.YtfapglhdakhbeaaGreatDoorEdN
import Derived.Test.YtfapglhdakhbeaaGreatDoorPartner
import Derived.Test.YtfapglhdakhbeaaGreatDoorNestP
namespace Go.Proofs.YtfapglhdakhbeaaGreatDoor
open Go.RowKit
set_option linter.unusedVariables false
set_option linter.unusedSimpArgs false

set_option maxRecDepth 100000 in
set_option maxHeartbeats 4000000 in
theorem nshut_calls (w : World) : Calls Tryz.prog 112 #[] w (fun r w' => r = .returned shutT.val ∧ Pure w w') := by
  go_enter Tryz.func112, Tryz.ntmps112
  go_wp2
  exact bodyPost_ret (tok_end rfl _ rfl (heap_alloc_new w _)) rfl ⟨rfl, (by repeat (first | exact Upd.refl _ _ | exact HU1.out | (refine Upd.alloc ?_ _) | (refine Upd.setCell ?_ (by intro h; simp at h; try omega) _) | (refine Upd.drew ?_) | (refine Upd.drewN ?_ _) | (refine Upd.trans ?_ HU1.out (fun _ _ h => h))))⟩
theorem agg8_end {fn : Func} {p : Tmp} (hres : fn.results = #[.cell p 46]) (tmps : Array Value) {w : World} {rb : Nat} {y0 y1 y2 y3 y4 y5 y6 y7 : Value} {t : TypeId} {fr : Nat × Nat} (hp : tmps.getD p undef = .pointer (some ⟨rb, 0, none⟩)) (hg : w.heap[rb]? = some (.cells #[y0, y1, y2, y3, y4, y5, y6, y7] t fr)) :
    (results fn tmps).run Tryz.prog w = .ok (.agg #[y0, y1, y2, y3, y4, y5, y6, y7]) w := by
  have hp' : tmps[p]?.getD undef = .pointer (some ⟨rb, 0, none⟩) := by simpa using hp
  simp [results, hres, hp', asAddr, run_loadVar_row (P := Tryz.prog) _ rb t 46 _ fr _ hg Tryz.underlying46 rfl (by kernel_rfl)]
theorem results_tmp4 {fn : Func} {t u v x : Tmp} (h : fn.results = #[.tmp t, .tmp u, .tmp v, .tmp x]) (tmps : Array Value) (P : Program) (w : World) :
    (results fn tmps).run P w = .ok (.tuple #[tmps.getD t undef, tmps.getD u undef, tmps.getD v undef, tmps.getD x undef]) w := by
  simp [results, h]
theorem nar_lt (l : List Tok) (q : Int) : aroundL l q < l.length := by
  by_cases h : aroundL l q = -1
  · omega
  · obtain ⟨i, y, h1, h2, _⟩ := around_open h
    have := (List.getElem?_eq_some_iff.1 h2).1
    omega
set_option maxRecDepth 100000 in
set_option maxHeartbeats 4000000 in
theorem nmove_calls (a b g h n : Int) (w : World) : Calls Tryz.prog 114 #[.int .i64 a, .int .i64 b, .int .i64 g, .int .i64 h, .int .i64 n] w (fun r w' => r = .returned (.agg #[.int .i64 1, .int .i64 a, .int .i64 b, .int .i64 g, .int .i64 h, .int .i64 n, .slice none 0 0, .int .i64 0]) ∧ Pure w w') := by
  go_enter Tryz.func114, Tryz.ntmps114
  go_wp2
  exact bodyPost_ret (agg8_end rfl _ rfl (heap_alloc_new w _)) rfl ⟨rfl, (by repeat (first | exact Upd.refl _ _ | exact HU1.out | (refine Upd.alloc ?_ _) | (refine Upd.setCell ?_ (by intro h; simp at h; try omega) _) | (refine Upd.drew ?_) | (refine Upd.drewN ?_ _) | (refine Upd.trans ?_ HU1.out (fun _ _ h => h))))⟩
set_option maxRecDepth 100000 in
set_option maxHeartbeats 4000000 in
theorem nat_calls {w : World} {F : Nat → Prop} {cb : Nat} {A : Option Addr} {c : Nat} {l : List Tok} {p : Int} (h : SchR w cb houseRules houseGroups) (hr : tokR.row w F A l) (hb : l.length ≤ 1048576 * 4) :
    Calls Tryz.prog 110 #[deskV cb A l.length c, .int .i64 p] w (fun r w' => r = .returned (.int .i64 (placesErr l p p)) ∧ Pure w w') := by
  have HC := As.mk (fun W (hu : Pure w W) => house_check (c := c) (h.pure hu) (Rp.row_pure hr hu) hb)
  have HE := As.mk (show placesErr l p p = if (houseCheck l).2 ≠ 0 then (houseCheck l).2 else if p < 0 ∨ p < p ∨ (l.length : Int) < p then 1 else 0 from rfl)
  clear h hr hb
  generalize placesErr l p p = pe at *
  generalize (houseCheck l).2 = e at *
  generalize (houseCheck l).1 = e1 at *
  by_cases h0 : e = 0
  · subst h0
    rw [if_neg (by omega)] at HE
    by_cases h1 : p < 0
    · rw [if_pos (.inl h1)] at HE
      go_enter Tryz.func110, Tryz.ntmps110
      go_wp2_with (go_at_call 17; refine (HC.out _ (Upd.alloc1 _ _ _)).mono ?_; rintro r w1 ⟨rfl, hu⟩; have hb1 := (hu.block w.heap.size (by simp) (fun h => h)).trans (heap_alloc_new w _); obtain ⟨q0, q1⟩ := cells2 hb1; have HU1 := As.mk (Upd.trans (Upd.alloc1 (fun _ => False) _ _) hu (fun _ _ h => h)); clear hu hb1)
      go_ret
      exact ⟨(by rw [HE.out]; rfl), HU1.out⟩
    · by_cases h3 : (l.length : Int) < p
      · rw [if_pos (.inr (.inr h3))] at HE
        go_enter Tryz.func110, Tryz.ntmps110
        go_wp2_with (go_at_call 17; refine (HC.out _ (Upd.alloc1 _ _ _)).mono ?_; rintro r w1 ⟨rfl, hu⟩; have hb1 := (hu.block w.heap.size (by simp) (fun h => h)).trans (heap_alloc_new w _); obtain ⟨q0, q1⟩ := cells2 hb1; have HU1 := As.mk (Upd.trans (Upd.alloc1 (fun _ => False) _ _) hu (fun _ _ h => h)); clear hu hb1)
        go_ret
        exact ⟨(by rw [HE.out]; rfl), HU1.out⟩
      · rw [if_neg (by omega)] at HE
        go_enter Tryz.func110, Tryz.ntmps110
        go_wp2_with (go_at_call 17; refine (HC.out _ (Upd.alloc1 _ _ _)).mono ?_; rintro r w1 ⟨rfl, hu⟩; have hb1 := (hu.block w.heap.size (by simp) (fun h => h)).trans (heap_alloc_new w _); obtain ⟨q0, q1⟩ := cells2 hb1; have HU1 := As.mk (Upd.trans (Upd.alloc1 (fun _ => False) _ _) hu (fun _ _ h => h)); clear hu hb1)
        go_ret
        exact ⟨(by rw [HE.out]; rfl), HU1.out⟩
  · have f0 : (e != 0) = true := by simpa using h0
    rw [if_pos h0] at HE
    clear h0
    go_enter Tryz.func110, Tryz.ntmps110
    go_wp2_with (go_at_call 17; refine (HC.out _ (Upd.alloc1 _ _ _)).mono ?_; rintro r w1 ⟨rfl, hu⟩; have HU1 := As.mk (Upd.trans (Upd.alloc1 (fun _ => False) _ _) hu (fun _ _ h => h)); clear hu)
    go_ret
    exact ⟨(by rw [HE.out]; rfl), HU1.out⟩
/-- A step without its tokens. -/
def StepD.bare (s : StepD) : Value := .agg #[.int .i64 s.k, .int .i64 s.fr, .int .i64 s.tt, .int .i64 s.gf, .int .i64 s.gt, .int .i64 s.ins, .slice none 0 0, .int .i64 s.mark]
def NTold (s : StepD) (e : Int) (w : World) (r : Ending) (w' : World) : Prop :=
  ∃ B' c', Told (toldS s e) B' c' e w r w' ∧ (tokR.row w' (fun k => w.heap.size ≤ k) B' (toldS s e).sl ∧ (toldS s e).sl.length ≤ c' ∧ ((toldS s e).sl = [] → B' = none ∧ c' = 0)) ∧ (e ≠ 0 → B' = none ∧ c' = 0)
set_option maxRecDepth 100000 in
set_option maxHeartbeats 4000000 in
theorem ntell_calls {w : World} {G : Nat → Prop} {cb : Nat} {A T : Option Addr} {c ct n : Nat} {s : StepD} {x : List Tok} {e : Int} (hne : s.sl ≠ []) (hx : tokR.row w G T s.sl) (hb : s.sl.length ≤ 100000)
    (hd : ∀ W B cs, Pure w W → tokR.row W (fun _ => True) B s.sl → s.sl.length ≤ cs → Calls Tryz.prog 101 #[.pointer (some ⟨cb, 0, none⟩), .slice A n c, s.val B cs] W (DocR W x e)) :
    Calls Tryz.prog 113 #[deskV cb A n c, s.bare, .slice T s.sl.length ct] w (NTold s e w) := by
  have HX := As.mk hx
  have HD := As.mk hd
  have HNE := As.mk hne
  clear hx hd hne
  have HW3 := As.mk (show Pure w (((w.alloc (.cells #[.pointer (some ⟨cb, 0, none⟩), .slice A n c] 149)).alloc (.cells #[.int .i64 s.k, .int .i64 s.fr, .int .i64 s.tt, .int .i64 s.gf, .int .i64 s.gt, .int .i64 s.ins, .slice none 0 0, .int .i64 s.mark] 46)).alloc (.cells #[.int .i64 0, .int .i64 0, .int .i64 0, .int .i64 0, .int .i64 0, .int .i64 0, .slice none 0 0, .int .i64 0] 46)) from ((Upd.alloc1 _ _ _).alloc _).alloc _)
  obtain ⟨sk, sfr, stt, sgf, sgt, sins, ssl, smark⟩ := s
  unfold StepD.val at HD
  unfold StepD.bare
  simp only at *
  go_enter Tryz.func113, Tryz.ntmps113
  go_wp2_with (at_builtin; refine Rp.append_row tokR (c := ct) (Rp.own_nil tokR 71 _ (fun _ => False)) (Rp.row'_of (Rp.row_pure HX.out HW3.out) (fun _ _ h => h)) (Fz := fun _ => False) (fun _ h => h.elim) rfl _ _ 22 _ 32 rfl Tryz.underlying22 tok_info rfl (by decide) (by decide) rfl rfl (by simp; omega) ?_; intro v1 w2 ho1 hu2 hat; obtain ⟨A1, c1, rfl, hc1, hrow1⟩ := Rp.own_slice ho1; simp only [List.nil_append] at hc1 hrow1 hat; have hp2 : Pure _ w2 := Upd.mono hu2 (fun k _ h => by simp [Value.ownBlock] at h); obtain ⟨hb0, hb1, hb2, hp3⟩ := three_up hp2; have HB0 := As.mk hb0; have HB1 := As.mk hb1; have HB2 := As.mk hb2; have HP2 := As.mk hp3; have HG1 := As.mk (Rp.row_fp (G := fun k => w.heap.size + 2 < k) hrow1 (fun k hk => by rcases hk with hk | hk | hk; exact hk.1.elim; exact hk.elim; rcases hat with hat | ⟨b, hb, hle⟩; (rw [hat] at hk; simp [Value.ownBlock] at hk); (rw [hb] at hk; cases hk; simp at hle; omega))); have HC1 := As.mk hc1; clear ho1 hu2 hat hc1 hrow1 hb0 hb1 hb2 hp2 hp3; apply As.out)
  refine ⟨?_⟩
  have hbl1 : w.heap.size + 1 < w2.heap.size := lt_of_block HB1.out
  have hbl2 : w.heap.size + 2 < w2.heap.size := lt_of_block HB2.out
  have hcf1 : ∀ i, w2.frozen? ⟨w.heap.size + 1, i, none⟩ = false := fun i => by simp [World.frozen?, HB1.out]
  obtain ⟨q0, q1⟩ := cells2 HB0.out
  obtain ⟨k0, k1, k2, k3, k4, k5, k6, k7⟩ := cells8 HB1.out
  have HU9 := As.mk (HP2.out.setCell (p := ⟨w.heap.size + 1, 6, none⟩) (fun h => absurd h (by simp)) (.slice A1 ssl.length c1))
  have HUq := As.mk ((Upd.refl (fun k => k = w.heap.size + 1) w2).setCell (p := ⟨w.heap.size + 1, 6, none⟩) (fun _ => rfl) (.slice A1 ssl.length c1))
  have HR9 := As.mk (Rp.row_upd HG1.out HUq.out (fun k _ h e => by omega))
  have HB9 := As.mk ((HUq.out.block (w.heap.size + 2) hbl2 (by omega)).trans HB2.out)
  by_cases h0 : e = 0
  · subst h0
    go_wp2_with (go_at_call 101; refine (HD.out (w2.setCell ⟨w.heap.size + 1, 6, none⟩ (.slice A1 ssl.length c1)) A1 c1 HU9.out (Rp.row_fp HR9.out (fun _ _ => trivial)) HC1.out).mono ?_; rintro r w4 hd; obtain ⟨⟨B4, rfl, hrow⟩, hu⟩ := DocR.zero hd; have HB4 := As.mk ((hu.block (w.heap.size + 2) (lt_of_block HB9.out) (fun h => h)).trans HB9.out); have HU4 := As.mk (HU9.out.trans hu (fun _ _ h => h)); have HR4 := As.mk (Rp.row_pure HR9.out hu); have hb5 := (hu.block (w.heap.size + 1) (by simp [World.setCell]; omega) (fun h => h)).trans (show (w2.setCell ⟨w.heap.size + 1, 6, none⟩ (.slice A1 ssl.length c1)).heap[w.heap.size + 1]? = some (.cells #[.int .i64 sk, .int .i64 sfr, .int .i64 stt, .int .i64 sgf, .int .i64 sgt, .int .i64 sins, .slice A1 ssl.length c1, .int .i64 smark] 46 (0, 0)) by simp [World.setCell, Array.getElem?_modify, HB1.out]); obtain ⟨m0, m1, m2, m3, m4, m5, m6, m7⟩ := cells8 hb5; clear hd hu hb5 hrow; apply As.out)
    refine ⟨?_⟩
    have hbl : w.heap.size + 2 < w4.heap.size := lt_of_block HB4.out
    have hcf : ∀ i, w4.frozen? ⟨w.heap.size + 2, i, none⟩ = false := fun i => by simp [World.frozen?, HB4.out]
    obtain ⟨z0, z1, z2, z3, z4, z5, z6, z7⟩ := cells8 HB4.out
    go_wp2
    exact bodyPost_ret (step_end (rb := w.heap.size + 2) rfl _ rfl (set8 (rb := w.heap.size + 2) HB4.out _ _ _ _ _ _ _ _)) rfl ⟨A1, c1, ⟨rfl, set8_pure HU4.out (by omega) _ _ _ _ _ _ _ _⟩, ⟨Rp.row_fp (Rp.row_upd HR4.out (set8_upd (Upd.refl _ _) _ _ _ _ _ _ _ _) (fun k _ h e => by omega)) (fun k h => by omega), HC1.out, fun h => absurd h HNE.out⟩, fun h => absurd rfl h⟩
  · have HN := As.mk h0
    have f0 : (e != 0) = true := by simpa using h0
    clear h0
    go_wp2_with (go_at_call 101; refine (HD.out (w2.setCell ⟨w.heap.size + 1, 6, none⟩ (.slice A1 ssl.length c1)) A1 c1 HU9.out (Rp.row_fp HR9.out (fun _ _ => trivial)) HC1.out).mono ?_; rintro r w4 hd; obtain ⟨rfl, hu⟩ := DocR.ne hd HN.out; have HB4 := As.mk ((hu.block (w.heap.size + 2) (lt_of_block HB9.out) (fun h => h)).trans HB9.out); have HU4 := As.mk (HU9.out.trans hu (fun _ _ h => h)); clear hd hu; apply As.out)
    refine ⟨?_⟩
    have hbl : w.heap.size + 2 < w4.heap.size := lt_of_block HB4.out
    have hcf : ∀ i, w4.frozen? ⟨w.heap.size + 2, i, none⟩ = false := fun i => by simp [World.frozen?, HB4.out]
    obtain ⟨z0, z1, z2, z3, z4, z5, z6, z7⟩ := cells8 HB4.out
    go_wp2
    exact bodyPost_ret (step_end (rb := w.heap.size + 2) rfl _ rfl (set8 (rb := w.heap.size + 2) HB4.out _ _ _ _ _ _ _ _)) rfl ⟨none, 0, ⟨by rw [toldS_refused HN.out]; rfl, set8_pure HU4.out (by omega) _ _ _ _ _ _ _ _⟩, ⟨by rw [toldS_refused HN.out]; exact .inl rfl, by rw [toldS_refused HN.out]; exact Nat.zero_le _, fun _ => ⟨rfl, rfl⟩⟩, fun _ => ⟨rfl, rfl⟩⟩
def ItRel (w wr : World) (l : List Tok) (p i : Int) (f : Nat) (v : Value) : Prop :=
  ∃ s : List Int, intRS.own 3 wr (fun q => w.heap.size < q) v s ∧ s ++ itemsGo l f i = itemsL l p ∧ s.length + f ≤ l.length + 1 ∧ Pure w wr
theorem items_step {l : List Tok} {f i : Nat} {x : Tok} (hx : l[i]? = some x) : itemsGo l (f + 1) (i : Int) = (if x.t = 6 then [(i : Int)] else []) ++ itemsGo l f (aroundL l i) := by
  rw [itemsGo, if_neg (by omega)]
  have : tyAt l (i : Int) = x.t := by simp [tyAt, hx]
  rw [this]
set_option maxRecDepth 100000 in
set_option maxHeartbeats 4000000 in
theorem items_calls {w : World} {F : Nat → Prop} {A : Option Addr} {c : Nat} {l : List Tok} {p : Int} {cv : Value} (hr : tokR.row w F A l) (hb : l.length ≤ 1048576 * 4) (hlc : l.length ≤ c) :
    Calls Tryz.prog 125 #[.agg #[cv, .slice A l.length c], .int .i64 p] w (fun r w' => ∃ v, r = .returned v ∧ intRS.own 3 w' (fun k => w.heap.size ≤ k) v (itemsL l p) ∧ Pure w w') := by
  have HR := As.mk hr
  have HA := As.mk (fun W (hu : Pure w W) (q : Int) => around_calls (c := c) (at' := q) (Rp.row_pure hr hu) hb hlc)
  have HLT := As.mk (fun q : Int => nar_lt l q)
  have HOP := As.mk (fun (q : Int) (h : aroundL l q ≠ -1) => around_open h)
  have HI0 := As.mk (show itemsL l p = itemsGo l (l.length + 1) (aroundL l p) from rfl)
  clear hr
  go_enter Tryz.func125, Tryz.ntmps125
  go_wp2_with (go_at_call 77; refine (HA.out _ (Upd.alloc1 _ _ _) p).mono ?_; rintro r w1 ⟨rfl, hu⟩; obtain ⟨hb1, hu1⟩ := one_up hu; have HB1 := As.mk hb1; have HU1 := As.mk hu1; clear hu hb1 hu1)
  go_loopg [5, 6] (l.length + 1) (fun g v i wr => ∃ (f : Nat) (q : Int), g = f ∧ i = .int .i64 q ∧ q < l.length ∧ q < (f : Int) ∧ -1 ≤ q ∧ As (wr.heap[w.heap.size]? = some (.cells #[cv, .slice A l.length c] 149)) ∧ As (ItRel w wr l p q f v))
  case atStart => exact ⟨l.length + 1, aroundL l p, rfl, rfl, HLT.out p, by have := HLT.out p; omega, (by by_cases h : aroundL l p = -1; omega; obtain ⟨i, y, h1, _⟩ := HOP.out p h; omega), HB1, ⟨[], Rp.own_nil _ _ _ _, by rw [HI0.out]; rfl, by simp, HU1.out⟩⟩
  case round =>
    obtain ⟨f, q, hgf, rfl, hql, hqf, hq1, HB, HS⟩ := hrel
    obtain rfl : f = gk := hgf.symm
    obtain ⟨q0, q1⟩ := cells2 HB.out
    by_cases hq : q < 0
    · have h9 : ¬ (0 ≤ q) := by omega
      go_wp2
      go_ret
      obtain ⟨s, ho, he, _, hp⟩ := HS.out
      refine ⟨_, rfl, ?_, hp⟩
      have : itemsGo l f q = [] := by
        cases f with
        | zero => rfl
        | succ f => rw [itemsGo, if_pos hq]
      rw [← he, this, List.append_nil]
      obtain ⟨inner, o1, o2, o3⟩ := ho
      exact ⟨inner, o1, fun k hk => Nat.le_of_lt (o2 k hk), o3⟩
    · obtain ⟨i, rfl⟩ := Int.eq_ofNat_of_zero_le (show 0 ≤ q by omega)
      obtain ⟨f', rfl⟩ : ∃ f', f = f' + 1 := ⟨f - 1, by omega⟩
      obtain ⟨x, hx⟩ : ∃ x, l[i]? = some x := ⟨_, List.getElem?_eq_getElem (by omega)⟩
      obtain ⟨s, ho, he, hsf, hp⟩ := HS.out
      obtain ⟨bA, oA, rfl, hF, hbA, c0, c1, c2, c3⟩ := tok_at (Rp.row_pure HR.out hp) hx
      have hst := items_step (f := f') hx
      have hilt : i < l.length := by omega
      have hnx : aroundL l i < (i : Int) ∧ -1 ≤ aroundL l i := by
        by_cases h : aroundL l i = -1
        · omega
        · obtain ⟨j, y, h1, _, _, h2⟩ := HOP.out i h
          omega
      have HNX := As.mk hnx
      have HO := As.mk ho
      have HP := As.mk hp
      have HE := As.mk he
      clear hx ho hp he HS hF hbA c0 c2 c3 hnx
      by_cases h6 : x.t = 6
      · rw [if_pos h6] at hst
        have HST := As.mk hst
        have e6 : (x.t == 6) = true := by simpa using h6
        clear hst h6
        go_wp2_with (first | (go_at_call 77; refine (HA.out _ HU5.out (i : Int)).mono ?_; rintro r w6 ⟨rfl, hu⟩; have HO6 := As.mk (Rp.own_upd HO5.out hu (fun _ _ _ h => h)); have HB6 := As.mk ((hu.block w.heap.size (lt_of_block HB5.out) (fun h => h)).trans HB5.out); have HU6 := As.mk (HU5.out.trans hu (fun _ _ h => h)); clear hu) | (at_builtin; refine Rp.own_append intRS HO.out (i : Int) [.int .i64 i] rfl (Fp := fun _ => False) (G := fun q => w.heap.size < q) (fun _ h => h.elim) (fun _ h _ => h) (fun q hq => by have h7 := HP.out.size; have h8 := lt_of_block HB.out; omega) rfl _ _ 86 _ 8 rfl Tryz.underlying86 int_infoS rfl (by decide) (by decide) rfl (by simp [Act.eval]) (by omega) ?_; intro v1 w5 ho1 hu1; have HO5 := As.mk ho1; have HU5 := As.mk (Upd.trans HP.out hu1 (fun q hq h => by have := Rp.own_block_lt HO.out q h; omega)); have HB5 := As.mk ((hu1.block w.heap.size (lt_of_block HB.out) (fun h => by have := Rp.own_block_lt HO.out _ h; omega)).trans HB.out); obtain ⟨q0', q1'⟩ := cells2 HB5.out; clear ho1 hu1))
        go_roundg f'
        case measure => omega
        case rel => exact ⟨f', aroundL l i, rfl, rfl, HLT.out _, by have := HNX.out; omega, HNX.out.2, HB6, ⟨s ++ [(i : Int)], HO6.out, by rw [← HE.out, HST.out, List.append_assoc], by simp; omega, HU6.out⟩⟩
      · rw [if_neg h6, List.nil_append] at hst
        have HST := As.mk hst
        have e6 : (x.t == 6) = false := by simpa using h6
        clear hst h6
        go_wp2_with (go_at_call 77; refine (HA.out _ HP.out (i : Int)).mono ?_; rintro r w6 ⟨rfl, hu⟩; have HO6 := As.mk (Rp.own_upd HO.out hu (fun _ _ _ h => h)); have HB6 := As.mk ((hu.block w.heap.size (lt_of_block HB.out) (fun h => h)).trans HB.out); have HU6 := As.mk (HP.out.trans hu (fun _ _ h => h)); clear hu)
        go_roundg f'
        case measure => omega
        case rel => exact ⟨f', aroundL l i, rfl, rfl, HLT.out _, by have := HNX.out; omega, HNX.out.2, HB6, ⟨s, HO6.out, by rw [← HE.out, HST.out], by omega, HU6.out⟩⟩
set_option maxRecDepth 100000 in
set_option maxHeartbeats 4000000 in
theorem Level_calls {w : World} {F : Nat → Prop} {A : Option Addr} {c : Nat} {l : List Tok} {p : Int} (hr : tokR.row w F A l) (hb : l.length ≤ 1048576 * 4) (hlc : l.length ≤ c) :
    Calls Tryz.prog 63 #[.slice A l.length c, .int .i64 p] w (fun r w' => r = .returned (.int .i64 ((itemsL l p).length : Nat)) ∧ Pure w w') := by
  have HI := As.mk (items_calls (p := p) (cv := .pointer none) hr hb hlc)
  clear hr
  generalize itemsL l p = s at *
  go_enter Tryz.func63, Tryz.ntmps63
  go_wp2_with (go_at_call 125; refine HI.out.mono ?_; rintro r w1 ⟨v, rfl, ho, hu⟩; obtain ⟨A1, c1, rfl, hc1, hrow1⟩ := Rp.own_slice ho; have HU1 := As.mk hu; clear ho hu hc1 hrow1)
  go_ret
  exact ⟨rfl, HU1.out⟩
theorem items_open {l : List Tok} : ∀ (f : Nat) (p : Int), ∀ q ∈ itemsGo l f (aroundL l p), ∃ (i : Nat) (y : Tok), q = i ∧ l[i]? = some y ∧ y.k = 1 ∧ y.t = 6 ∧ (i : Int) < p := by
  intro f
  induction f with
  | zero => intro p q hq; cases hq
  | succ f ih =>
    intro p q hq
    rw [itemsGo] at hq
    split at hq
    · cases hq
    · rename_i h0
      obtain ⟨i, y, h1, h2, h3, h4⟩ := around_open (l := l) (p := p) (by omega)
      rw [h1] at hq
      rcases List.mem_append.1 hq with hq | hq
      · split at hq
        · rename_i h6
          rw [List.mem_singleton.1 hq]
          refine ⟨i, y, rfl, h2, h3, ?_, h4⟩
          simpa [tyAt, h2] using h6
        · cases hq
      · obtain ⟨j, z, g1, g2, g3, g4, g5⟩ := ih i q hq
        exact ⟨j, z, g1, g2, g3, g4, by omega⟩
/-- What item tells. -/
def itemV (l : List Tok) (p : Int) : Int × Int × Int × Bool := match itemsL l p with
  | [] => (0, 0, 0, false)
  | x :: _ => (x, partL l x.toNat + 1, aroundL l x, decide (0 ≤ aroundL l x))
set_option maxRecDepth 100000 in
set_option maxHeartbeats 4000000 in
theorem item_calls {w : World} {F : Nat → Prop} {cb : Nat} {A : Option Addr} {c : Nat} {l : List Tok} {p : Int} (hr : tokR.row w F A l) (hb : l.length ≤ 2048) (hlc : l.length ≤ c) :
    Calls Tryz.prog 111 #[deskV cb A l.length c, .int .i64 p] w (fun r w' => r = .returned (.tuple #[.int .i64 (itemV l p).1, .int .i64 (itemV l p).2.1, .int .i64 (itemV l p).2.2.1, .bool (itemV l p).2.2.2]) ∧ Pure w w') := by
  have HI := As.mk (fun W (hu : Pure w W) => items_calls (p := p) (cv := .pointer (some ⟨cb, 0, none⟩)) (Rp.row_pure hr hu) (by omega) hlc)
  unfold itemV
  cases hs : itemsL l p with
  | nil =>
    rw [hs] at HI
    simp only
    clear hr hs
    go_enter Tryz.func111, Tryz.ntmps111
    go_wp2_with (go_at_call 125; refine (HI.out _ (Upd.alloc1 _ _ _)).mono ?_; rintro r w1 ⟨v, rfl, ho, hu⟩; obtain ⟨A1, c1, rfl, hc1, hrow1⟩ := Rp.own_slice ho; obtain ⟨hb1, hu1⟩ := one_up hu; have HU1 := As.mk hu1; clear ho hu hc1 hrow1 hb1 hu1)
    go_simp
    refine bodyPost_ret (results_tmp4 rfl _ _ _) rfl ?_
    exact ⟨rfl, HU1.out⟩
  | cons x r =>
    rw [hs] at HI
    obtain ⟨i, y, rfl, hy, hy1, _, _⟩ := items_open (l := l) (l.length + 1) p x (by
      have : itemsL l p = itemsGo l (l.length + 1) (aroundL l p) := rfl
      rw [← this, hs]; simp)
    have HA := As.mk (fun W (hu : Pure w W) => around_calls (c := c) (at' := (i : Int)) (Rp.row_pure hr hu) (by omega) hlc)
    have HP := As.mk (fun W (hu : Pure w W) => Partner_open (c := c) (Rp.row_pure hr hu) (by omega) hlc hy hy1)
    have hbd := part_bound (i := i) hb
    have hw1 : IntKind.i64.wrap (partL l i + 1) = partL l i + 1 := IntWalk.i64_in _ (by omega)
    simp only [Int.toNat_natCast]
    have hge : decide (aroundL l (i : Int) ≥ 0) = decide (0 ≤ aroundL l (i : Int)) := rfl
    clear hr hs hy hy1
    generalize aroundL l (i : Int) = ar at *
    generalize partL l i = pt at *
    go_enter Tryz.func111, Tryz.ntmps111
    go_wp2_with (go_at_call 125; refine (HI.out _ (Upd.alloc1 _ _ _)).mono ?_; rintro r1 w1 ⟨v, rfl, ho, hu⟩; obtain ⟨hb1, hu1⟩ := one_up hu; have HB1 := As.mk hb1; obtain ⟨q0, q1⟩ := cells2 hb1; have HU1 := As.mk hu1; have HO1 := As.mk ho; clear ho hu hb1 hu1; apply As.out)
    refine ⟨?_⟩
    obtain ⟨a, cc, rfl⟩ := Rp.own_val HO1.out (by simp)
    obtain ⟨b, rfl, hbb, hc⟩ := int_own_at HO1.out (j := 0) rfl
    rw [List.length_cons]
    go_wp2_with (first | (go_at_call 108; refine (HP.out _ HU2.out).mono ?_; rintro r2 w3 ⟨rfl, hu⟩; have HU3 := As.mk (HU2.out.trans hu (fun _ _ h => h)); clear hu) | (go_at_call 77; refine (HA.out _ HU1.out).mono ?_; rintro r2 w2 ⟨rfl, hu⟩; have hb2 := (hu.block w.heap.size (lt_of_block HB1.out) (fun h => h)).trans HB1.out; obtain ⟨q0', q1'⟩ := cells2 hb2; have HU2 := As.mk (HU1.out.trans hu (fun _ _ h => h)); clear hu hb2))
    go_simp
    refine bodyPost_ret (results_tmp4 rfl _ _ _) rfl ?_
    exact ⟨rfl, HU3.out⟩
end Go.Proofs.YtfapglhdakhbeaaGreatDoor
