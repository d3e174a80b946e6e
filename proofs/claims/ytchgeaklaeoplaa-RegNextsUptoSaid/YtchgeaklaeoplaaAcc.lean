/- reg.Accepts, Begins, Nexts. -/
import Derived.Test.YtchgeaklaeoplaaMOk
namespace Go.Proofs.Ytchgeaklaeoplaa
open Go.RowKit
set_option linter.unusedVariables false
set_option linter.unusedSimpArgs false

theorem made_any {F G : Nat → Prop} {A Bg : Option Addr} {c d : Nat} {e : Ex} {g : List Grp} {w : World} (hr : exR.row w F A e.l) (hg : grpR.row w G Bg g) (hF : ∀ k, F k → k < w.heap.size) (hG : ∀ k, G k → k < w.heap.size) (hb : e.wt ≤ 1048576 * 4) (hgl : g.length ≤ 1048576) (hgt : ∀ x ∈ g, x.types.length ≤ 1048576) :
    Calls Try.prog 21 #[e.val A c, .slice Bg g.length d] w fun r w' => Pure w w' ∧ ((regCheck e g ≠ 0 ∧ r = .returned (.pointer none)) ∨ (regCheck e g = 0 ∧ ∃ mb, r = .returned (.pointer (some ⟨mb, 0, none⟩)) ∧ Mac w' w'.heap.size mb (mcT g e) (mcF g e) (mcP g e))) := by
  by_cases h : regCheck e g = 0
  · exact (made_some hr hg hF hG hb hgl hgt h).mono fun r w' ⟨mb, h1, h2, h3⟩ => ⟨h3, .inr ⟨h, mb, h1, h2⟩⟩
  · exact (made_none hr hg hb hgl hgt h).mono fun r w' ⟨h1, h2⟩ => ⟨h2, .inl ⟨h, h1⟩⟩

/-- What made needs. -/
structure MadeC (w : World) (A Bg : Option Addr) (e : Ex) (g : List Grp) : Prop where
  hr : exR.row w (fun k => k < w.heap.size) A e.l
  hg : grpR.row w (fun k => k < w.heap.size) Bg g
  wt : e.wt ≤ 1048576 * 4
  gl : g.length ≤ 1048576
  gt : ∀ x ∈ g, x.types.length ≤ 1048576
theorem MadeC.pure {w w1 : World} {A Bg : Option Addr} {e : Ex} {g : List Grp} (h : MadeC w A Bg e g) (hu : Pure w w1) : MadeC w1 A Bg e g :=
  ⟨Rp.row_fp (Rp.row_pure h.hr hu) (fun k hk => Nat.lt_of_lt_of_le hk hu.size), Rp.row_fp (Rp.row_pure h.hg hu) (fun k hk => Nat.lt_of_lt_of_le hk hu.size), h.wt, h.gl, h.gt⟩
theorem MadeC.noC {w : World} {A Bg : Option Addr} {e : Ex} {g : List Grp} {c d : Nat} (h : MadeC w A Bg e g) (hc : regCheck e g ≠ 0) : Calls Try.prog 21 #[.agg #[.int .i64 e.k, .string e.name, .slice A e.l.length c], .slice Bg g.length d] w fun r w' => r = .returned (.pointer none) ∧ Pure w w' :=
  made_none h.hr h.hg h.wt h.gl h.gt hc
theorem MadeC.yesC {w : World} {A Bg : Option Addr} {e : Ex} {g : List Grp} {c d : Nat} (h : MadeC w A Bg e g) (hc : regCheck e g = 0) : Calls Try.prog 21 #[.agg #[.int .i64 e.k, .string e.name, .slice A e.l.length c], .slice Bg g.length d] w fun r w' => ∃ mb, r = .returned (.pointer (some ⟨mb, 0, none⟩)) ∧ Mac w' w'.heap.size mb (mcT g e) (mcF g e) (mcP g e) ∧ Pure w w' :=
  made_some h.hr h.hg (fun _ h => h) (fun _ h => h) h.wt h.gl h.gt hc

set_option maxRecDepth 100000 in
set_option maxHeartbeats 4000000 in
theorem accepts_calls {A Bg Aw : Option Addr} {c d cw : Nat} {e : Ex} {g : List Grp} {word : List Int} {w : World} {F : Nat → Prop} (hm : MadeC w A Bg e g) (hw : intR.row w F Aw word) (hb : word.length ≤ 1048576 * 4) :
    Calls Try.prog 10 #[e.val A c, .slice Bg g.length d, .slice Aw word.length cw] w fun r w' => r = .returned (.bool (regAccepts e g word)) ∧ Pure w w' := by
  have HM := As.mk hm
  have HW := As.mk hw
  obtain ⟨k0, nm, l⟩ := e
  show Calls Try.prog 10 #[.agg #[.int .i64 k0, .string nm, .slice A l.length c], .slice Bg g.length d, .slice Aw word.length cw] w _
  by_cases hc : regCheck (.mk k0 nm l) g = 0
  · have HMC := As.mk (fun (W : World) (hu : Pure w W) => (HM.out.pure hu).yesC (c := c) (d := d) hc)
    have hO := mc_ok hc
    have HO := As.mk hO
    have HE := As.mk (show regAccepts (.mk k0 nm l) g word = (decide ((regRun (.mk k0 nm l) g word).2 = word.length) && endsS (mcP g (.mk k0 nm l)) (regRun (.mk k0 nm l) g word).1) by unfold regAccepts; rw [hc]; simp)
    have HRR := As.mk (show regRun (.mk k0 nm l) g word = runS (mcT g (.mk k0 nm l)) (mcF g (.mk k0 nm l)) (mcP g (.mk k0 nm l)) startS word from rfl)
    have hle := runS_le (mcT g (.mk k0 nm l)) (mcF g (.mk k0 nm l)) (mcP g (.mk k0 nm l)) word startS
    have HIN := As.mk (runS_in hO word startS (startS_in _))
    rw [← HRR.out] at hle HIN
    clear hm hw hc hO
    generalize mcT g (.mk k0 nm l) = ts at *
    generalize mcF g (.mk k0 nm l) = fs at *
    generalize mcP g (.mk k0 nm l) = p at *
    generalize regRun (.mk k0 nm l) g word = rr at *
    generalize regAccepts (.mk k0 nm l) g word = acc at *
    obtain ⟨S, n⟩ := rr
    go_enter Try.func10, Try.ntmps10
    go_wp2_with (go_at_call 21; refine (HMC.out _ (Upd.alloc1 _ _ _)).mono ?_; rintro e w1 ⟨mb, rfl, hmac, hu⟩; have HU := As.mk (Upd.trans (Upd.alloc1 (fun _ => False) _ _) hu (fun _ _ h => h)); have HMAC := As.mk hmac; clear hmac hu; apply As.out)
    refine ⟨?_⟩
    have HRUN := As.mk (run_calls (c := cw) HMAC.out HO.out (Rp.row_pure HW.out HU.out) hb)
    rw [← HRR.out] at HRUN
    go_wp2_with (go_at_call 22; refine HRUN.out.mono ?_; rintro e w2 ⟨sb, rfl, hset, hu2⟩; have HS2 := As.mk (And.intro hset hu2); clear hset hu2; apply As.out)
    refine ⟨?_⟩
    have HEND := As.mk (ends_calls (HMAC.out.pure HS2.out.2) HO.out HS2.out.1 HIN.out)
    by_cases hn : n = word.length
    · subst hn
      go_wp2_with (go_at_call 23; refine HEND.out.mono ?_; rintro e w3 ⟨rfl, hu3⟩)
      go_ret
      refine ⟨?_, (HU.out.trans HS2.out.2 (fun _ _ h => h)).trans hu3 (fun _ _ h => h)⟩
      rw [HE.out]
      simp
    · have h1 : ((n : Int) == (word.length : Int)) = false := by simp; omega
      have h2 : (n == word.length) = false := by simpa using hn
      go_wp2
      go_ret
      refine ⟨?_, HU.out.trans HS2.out.2 (fun _ _ h => h)⟩
      rw [HE.out]
      simp [hn]
  · have HMC := As.mk (fun (W : World) (hu : Pure w W) => (HM.out.pure hu).noC (c := c) (d := d) hc)
    have HE := As.mk (show regAccepts (.mk k0 nm l) g word = false by unfold regAccepts; simp [hc])
    clear hm hw hc
    go_enter Try.func10, Try.ntmps10
    go_wp2_with (go_at_call 21; refine (HMC.out _ (Upd.alloc1 _ _ _)).mono ?_; rintro e w1 ⟨rfl, hu⟩; have HU := As.mk (Upd.trans (Upd.alloc1 (fun _ => False) _ _) hu (fun _ _ h => h)); clear hu)
    go_ret
    exact ⟨by rw [HE.out]; rfl, HU.out⟩

set_option maxRecDepth 100000 in
set_option maxHeartbeats 4000000 in
theorem begins_calls {A Bg Aw : Option Addr} {c d cw : Nat} {e : Ex} {g : List Grp} {word : List Int} {w : World} {F : Nat → Prop} (hm : MadeC w A Bg e g) (hw : intR.row w F Aw word) (hb : word.length ≤ 1048576 * 4) :
    Calls Try.prog 14 #[e.val A c, .slice Bg g.length d, .slice Aw word.length cw] w fun r w' => r = .returned (.int .i64 (regBegins e g word : Nat)) ∧ Pure w w' := by
  have HM := As.mk hm
  have HW := As.mk hw
  obtain ⟨k0, nm, l⟩ := e
  show Calls Try.prog 14 #[.agg #[.int .i64 k0, .string nm, .slice A l.length c], .slice Bg g.length d, .slice Aw word.length cw] w _
  by_cases hc : regCheck (.mk k0 nm l) g = 0
  · have HMC := As.mk (fun (W : World) (hu : Pure w W) => (HM.out.pure hu).yesC (c := c) (d := d) hc)
    have hO := mc_ok hc
    have HO := As.mk hO
    have HE := As.mk (show regBegins (.mk k0 nm l) g word = (regRun (.mk k0 nm l) g word).2 by unfold regBegins; rw [if_pos hc])
    have HRR := As.mk (show regRun (.mk k0 nm l) g word = runS (mcT g (.mk k0 nm l)) (mcF g (.mk k0 nm l)) (mcP g (.mk k0 nm l)) startS word from rfl)
    clear hm hw hc hO
    generalize mcT g (.mk k0 nm l) = ts at *
    generalize mcF g (.mk k0 nm l) = fs at *
    generalize mcP g (.mk k0 nm l) = p at *
    generalize regRun (.mk k0 nm l) g word = rr at *
    generalize regBegins (.mk k0 nm l) g word = acc at *
    obtain ⟨S, n⟩ := rr
    go_enter Try.func14, Try.ntmps14
    go_wp2_with (go_at_call 21; refine (HMC.out _ (Upd.alloc1 _ _ _)).mono ?_; rintro e w1 ⟨mb, rfl, hmac, hu⟩; have HU := As.mk (Upd.trans (Upd.alloc1 (fun _ => False) _ _) hu (fun _ _ h => h)); have HMAC := As.mk hmac; clear hmac hu; apply As.out)
    refine ⟨?_⟩
    have HRUN := As.mk (run_calls (c := cw) HMAC.out HO.out (Rp.row_pure HW.out HU.out) hb)
    rw [← HRR.out] at HRUN
    go_wp2_with (go_at_call 22; refine HRUN.out.mono ?_; rintro e w2 ⟨sb, rfl, hset, hu2⟩; have HS2 := As.mk (And.intro hset hu2); clear hset hu2)
    go_ret
    refine ⟨?_, HU.out.trans HS2.out.2 (fun _ _ h => h)⟩
    rw [HE.out]
    rfl
  · have HMC := As.mk (fun (W : World) (hu : Pure w W) => (HM.out.pure hu).noC (c := c) (d := d) hc)
    have HE := As.mk (show regBegins (.mk k0 nm l) g word = 0 by unfold regBegins; rw [if_neg hc])
    clear hm hw hc
    go_enter Try.func14, Try.ntmps14
    go_wp2_with (go_at_call 21; refine (HMC.out _ (Upd.alloc1 _ _ _)).mono ?_; rintro e w1 ⟨rfl, hu⟩; have HU := As.mk (Upd.trans (Upd.alloc1 (fun _ => False) _ _) hu (fun _ _ h => h)); clear hu)
    go_ret
    exact ⟨by rw [HE.out]; rfl, HU.out⟩

theorem nexts_succ (f : Nat → Bool) (k : Nat) : (((List.range (k + 1)).filter f).map (fun t : Nat => (t : Int))) = ((List.range k).filter f).map (fun t : Nat => (t : Int)) ++ if f k = true then [(k : Int)] else [] := by
  rw [List.range_succ, List.filter_append, List.map_append]
  cases h : f k <;> simp [h]

set_option maxRecDepth 100000 in
set_option maxHeartbeats 4000000 in
theorem nexts_calls {A Bg Aw : Option Addr} {c d cw : Nat} {e : Ex} {g : List Grp} {word : List Int} {w : World} {F : Nat → Prop} (hm : MadeC w A Bg e g) (hw : intR.row w F Aw word) (hb : word.length ≤ 1048576 * 4) :
    Calls Try.prog 17 #[e.val A c, .slice Bg g.length d, .slice Aw word.length cw] w fun r w' => ∃ v, r = .returned v ∧ intR.own 3 w' (fun k => w.heap.size ≤ k) v (regNexts e g word) ∧ Pure w w' := by
  have HM := As.mk hm
  have HW := As.mk hw
  obtain ⟨k0, nm, l⟩ := e
  show Calls Try.prog 17 #[.agg #[.int .i64 k0, .string nm, .slice A l.length c], .slice Bg g.length d, .slice Aw word.length cw] w _
  by_cases hc : regCheck (.mk k0 nm l) g = 0
  · have HMC := As.mk (fun (W : World) (hu : Pure w W) => (HM.out.pure hu).yesC (c := c) (d := d) hc)
    have hO := mc_ok hc
    have HO := As.mk hO
    have HE := As.mk (show regNexts (.mk k0 nm l) g word = if (regRun (.mk k0 nm l) g word).2 = word.length then ((List.range 16).filter (fun t : Nat => !emptyS (mcT g (.mk k0 nm l)).length (stepS (mcT g (.mk k0 nm l)) (mcF g (.mk k0 nm l)) (mcP g (.mk k0 nm l)) (regRun (.mk k0 nm l) g word).1 t))).map (fun t : Nat => (t : Int)) else [] by unfold regNexts; simp only [hc, true_and]; rfl)
    have HRR := As.mk (show regRun (.mk k0 nm l) g word = runS (mcT g (.mk k0 nm l)) (mcF g (.mk k0 nm l)) (mcP g (.mk k0 nm l)) startS word from rfl)
    have hle := runS_le (mcT g (.mk k0 nm l)) (mcF g (.mk k0 nm l)) (mcP g (.mk k0 nm l)) word startS
    have HIN := As.mk (runS_in hO word startS (startS_in _))
    rw [← HRR.out] at hle HIN
    have hlt0 := hO.lt
    clear hm hw hc hO
    generalize mcT g (.mk k0 nm l) = ts at *
    generalize mcF g (.mk k0 nm l) = fs at *
    generalize mcP g (.mk k0 nm l) = p at *
    generalize regRun (.mk k0 nm l) g word = rr at *
    generalize regNexts (.mk k0 nm l) g word = acc at *
    obtain ⟨S, n⟩ := rr
    go_enter Try.func17, Try.ntmps17
    go_wp2_with (go_at_call 21; refine (HMC.out _ (Upd.alloc1 _ _ _)).mono ?_; rintro e w1 ⟨mb, rfl, hmac, hu⟩; have HU := As.mk (Upd.trans (Upd.alloc1 (fun _ => False) _ _) hu (fun _ _ h => h)); have HMAC := As.mk hmac; clear hmac hu; apply As.out)
    refine ⟨?_⟩
    have HRUN := As.mk (run_calls (c := cw) HMAC.out HO.out (Rp.row_pure HW.out HU.out) hb)
    rw [← HRR.out] at HRUN
    go_wp2_with (go_at_call 22; refine HRUN.out.mono ?_; rintro e w2 ⟨sb, rfl, hset, hu2⟩; have HS2 := As.mk (And.intro hset hu2); clear hset hu2; apply As.out)
    refine ⟨?_⟩
    have hp2 : Pure w w2 := HU.out.trans HS2.out.2 (fun _ _ h => h)
    have HP2 := As.mk hp2
    have HM2 := As.mk (HMAC.out.pure HS2.out.2)
    have hNz : w1.heap.size ≤ w2.heap.size := HS2.out.2.size
    clear hp2
    by_cases hn : n = word.length
    · subst hn
      have HE2 := As.mk HE.out
      rw [if_pos rfl] at HE2
      clear HE
      go_wp2
      go_loopg [10, 27] 16 (fun g l i wr => ∃ k : Nat, k + g = 16 ∧ i = .int .i64 k ∧ As (intR.own 3 wr (fun q => w2.heap.size ≤ q) l (((List.range k).filter (fun t : Nat => !emptyS ts.length (stepS ts fs p S t))).map (fun t : Nat => (t : Int))) ∧ Pure w2 wr))
      case atStart => exact ⟨0, by omega, rfl, ⟨Rp.own_nil _ _ _ _, Upd.refl _ _⟩⟩
      case round =>
        obtain ⟨k, hk, rfl, HP⟩ := hrel
        by_cases hlt : k < 16
        · obtain ⟨g1, rfl⟩ : ∃ m, gk = m + 1 := ⟨gk - 1, by omega⟩
          have HK := As.mk hk
          have HC := As.mk (step_calls (t := (k : Int)) (HM2.out.pure HP.out.2) (HS2.out.1.kept HP.out.2 (fun h => h)) hlt0 HO.out.tl HO.out.fl (fun y _ hy => HIN.out y hy) HO.out.ok HO.out.len)
          have HNS := As.mk (nexts_succ (fun t : Nat => !emptyS ts.length (stepS ts fs p S t)) k)
          have hnl : (((List.range k).filter (fun t : Nat => !emptyS ts.length (stepS ts fs p S t))).map (fun t : Nat => (t : Int))).length ≤ 16 := by
            have := List.length_filter_le (fun t : Nat => !emptyS ts.length (stepS ts fs p S t)) (List.range k)
            rw [List.length_range] at this
            rw [List.length_map]
            omega
          generalize (((List.range k).filter (fun t : Nat => !emptyS ts.length (stepS ts fs p S t))).map (fun t : Nat => (t : Int))) = acc0 at *
          clear hk
          go_wp2_with (go_at_call 28; refine HC.out.mono ?_; rintro e w3 ⟨ob, rfl, hs3, hu3⟩; apply As.out)
          refine ⟨?_⟩
          obtain ⟨D, hD, hemp⟩ := hs3.empty ts.length (stepS_in HO.out S k) hlt0
          have hO3 := Rp.own_upd HP.out.1 hu3 (fun _ _ _ h => h)
          have HH3 := As.mk (And.intro hO3 (HP.out.2.trans hu3 (fun _ _ h => h)))
          have hz3 : w2.heap.size ≤ w3.heap.size := by have := HP.out.2.size; have := hu3.size; omega
          have HDD := As.mk hD
          clear hs3 hu3 hD hO3
          cases hq : emptyS ts.length (stepS ts fs p S k)
          · have hsz : ((Maps.size D : Int) > 0) = true := by
              rw [hq] at hemp
              simp at hemp
              simp; omega
            have hsz2 : 0 < Maps.size D := by simpa using hsz
            rw [hq] at HNS
            clear hemp hq
            go_wp2_with (first | (at_len; refine wpList_len_own _ rfl _ 46 rfl 3 4 Try.underlying46 _ ob (ts.length + 1) D rfl HDD.out ?_) | (at_builtin; refine Rp.own_append intR HH3.out.1 (k : Int) [.int .i64 k] rfl (Fp := fun _ => False) (G := fun q => w2.heap.size ≤ q) (fun _ h => h.elim) (fun _ h _ => h) (fun q hq => by omega) rfl _ _ 26 _ 8 rfl Try.underlying26 int_info rfl (by decide) (by decide) rfl (by simp [Act.eval]) (by omega) ?_; intro v1 w4 ho4 hu4; have HO4 := As.mk ho4; have HU4 := As.mk (Upd.trans HH3.out.2 hu4 (fun q hq h => by have := Rp.own_block_lt HH3.out.1 q h; have := HH3.out.2.size; omega)); clear ho4 hu4))
            go_roundg g1
            case measure => omega
            case rel => exact ⟨k + 1, by have := HK.out; omega, by go_num, ⟨by rw [HNS.out]; simpa using HO4.out, HU4.out⟩⟩
          · have hsz : ((Maps.size D : Int) > 0) = false := by
              rw [hq] at hemp
              simp at hemp
              simp; omega
            have hsz2 : Maps.size D = 0 := by
              rw [hq] at hemp
              simpa using hemp
            rw [hq] at HNS
            clear hemp hq
            go_wp2_with (at_len; refine wpList_len_own _ rfl _ 46 rfl 3 4 Try.underlying46 _ ob (ts.length + 1) D rfl HDD.out ?_)
            go_roundg g1
            case measure => omega
            case rel => exact ⟨k + 1, by have := HK.out; omega, by go_num, ⟨by rw [HNS.out]; simpa using HH3.out.1, HH3.out.2⟩⟩
        · obtain rfl : k = 16 := by omega
          go_wp2
          go_ret
          refine ⟨_, rfl, ?_, HP2.out.trans HP.out.2 (fun _ _ h => h)⟩
          rw [HE2.out]
          exact Rp.own_fp HP.out.1 (fun q hq => Nat.le_trans HP2.out.size hq)
    · have h1 : (n : Int) < (word.length : Int) := by omega
      have h2 : n < word.length := by omega
      have hE : acc = [] := by rw [HE.out, if_neg hn]
      have HE2 := As.mk hE
      clear HE hE
      go_wp2
      go_ret
      refine ⟨_, rfl, ?_, HP2.out⟩
      rw [HE2.out]
      exact Rp.own_nil _ _ _ _
  · have HMC := As.mk (fun (W : World) (hu : Pure w W) => (HM.out.pure hu).noC (c := c) (d := d) hc)
    have HE := As.mk (show regNexts (.mk k0 nm l) g word = [] by unfold regNexts; rw [if_neg (by simp [hc])])
    clear hm hw hc
    go_enter Try.func17, Try.ntmps17
    go_wp2_with (go_at_call 21; refine (HMC.out _ (Upd.alloc1 _ _ _)).mono ?_; rintro e w1 ⟨rfl, hu⟩; have HU := As.mk (Upd.trans (Upd.alloc1 (fun _ => False) _ _) hu (fun _ _ h => h)); clear hu)
    go_ret
    refine ⟨_, rfl, ?_, HU.out⟩
    rw [HE.out]
    exact Rp.own_nil _ _ _ _
end Go.Proofs.Ytchgeaklaeoplaa
