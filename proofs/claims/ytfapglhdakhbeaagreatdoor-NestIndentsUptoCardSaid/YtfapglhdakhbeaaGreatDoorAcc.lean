/- reg.Accepts, Begins, Nexts. -/
import Derived.Test.YtfapglhdakhbeaaGreatDoorMOk
namespace Go.Proofs.YtfapglhdakhbeaaGreatDoor
open Go.RowKit
set_option linter.unusedVariables false
set_option linter.unusedSimpArgs false

theorem made_any {F G : Nat → Prop} {A Bg : Option Addr} {c d : Nat} {e : Ex} {g : List Grp} {w : World} (hr : exR.row w F A e.l) (hg : grpR.row w G Bg g) (hF : ∀ k, F k → k < w.heap.size) (hG : ∀ k, G k → k < w.heap.size) (hb : e.wt ≤ 1048576 * 4) (hgl : g.length ≤ 1048576) (hgt : ∀ x ∈ g, x.types.length ≤ 1048576) :
    Calls Tryz.prog 135 #[e.val A c, .slice Bg g.length d] w fun r w' => Pure w w' ∧ ((regCheck e g ≠ 0 ∧ r = .returned (.pointer none)) ∨ (regCheck e g = 0 ∧ ∃ mb, r = .returned (.pointer (some ⟨mb, 0, none⟩)) ∧ Mac w' w'.heap.size mb (mcT g e) (mcF g e) (mcP g e))) := by
  by_cases h : regCheck e g = 0
  · exact (made_some hr hg hF hG hb hgl hgt h).mono fun r w' ⟨mb, h1, h2, h3⟩ => ⟨h3, .inr ⟨h, mb, h1, h2⟩⟩
  · exact (made_none hr hg hb hgl hgt h).mono fun r w' ⟨h1, h2⟩ => ⟨h2, .inl ⟨h, h1⟩⟩

/-- What made needs. -/
structure MadeC (w : World) (A Bg : Option Addr) (e : Ex) (g : List Grp) : Prop where
  hr : exR.row w (fun k => k < w.heap.size) A e.l
  hg : grpR.row w (fun k => k < w.heap.size) Bg g
  wt : e.wt ≤ 1048576 * 4
  gl : g.length ≤ 1048576
  gt : ∀ x ∈ g, x.types.length ≤ 1048576
theorem MadeC.pure {w w1 : World} {A Bg : Option Addr} {e : Ex} {g : List Grp} (h : MadeC w A Bg e g) (hu : Pure w w1) : MadeC w1 A Bg e g :=
  ⟨Rp.row_fp (Rp.row_pure h.hr hu) (fun k hk => Nat.lt_of_lt_of_le hk hu.size), Rp.row_fp (Rp.row_pure h.hg hu) (fun k hk => Nat.lt_of_lt_of_le hk hu.size), h.wt, h.gl, h.gt⟩
theorem MadeC.noC {w : World} {A Bg : Option Addr} {e : Ex} {g : List Grp} {c d : Nat} (h : MadeC w A Bg e g) (hc : regCheck e g ≠ 0) : Calls Tryz.prog 135 #[.agg #[.int .i64 e.k, .string e.name, .slice A e.l.length c], .slice Bg g.length d] w fun r w' => r = .returned (.pointer none) ∧ Pure w w' :=
  made_none h.hr h.hg h.wt h.gl h.gt hc
theorem MadeC.yesC {w : World} {A Bg : Option Addr} {e : Ex} {g : List Grp} {c d : Nat} (h : MadeC w A Bg e g) (hc : regCheck e g = 0) : Calls Tryz.prog 135 #[.agg #[.int .i64 e.k, .string e.name, .slice A e.l.length c], .slice Bg g.length d] w fun r w' => ∃ mb, r = .returned (.pointer (some ⟨mb, 0, none⟩)) ∧ Mac w' w'.heap.size mb (mcT g e) (mcF g e) (mcP g e) ∧ Pure w w' :=
  made_some h.hr h.hg (fun _ h => h) (fun _ h => h) h.wt h.gl h.gt hc

set_option maxRecDepth 100000 in
set_option maxHeartbeats 4000000 in
theorem accepts_calls {A Bg Aw : Option Addr} {c d cw : Nat} {e : Ex} {g : List Grp} {word : List Int} {w : World} {F : Nat → Prop} (hm : MadeC w A Bg e g) (hw : intR.row w F Aw word) (hb : word.length ≤ 1048576 * 4) :
    Calls Tryz.prog 71 #[e.val A c, .slice Bg g.length d, .slice Aw word.length cw] w fun r w' => r = .returned (.bool (regAccepts e g word)) ∧ Pure w w' := by
  have HM := As.mk hm
  have HW := As.mk hw
  obtain ⟨k0, nm, l⟩ := e
  show Calls Tryz.prog 71 #[.agg #[.int .i64 k0, .string nm, .slice A l.length c], .slice Bg g.length d, .slice Aw word.length cw] w _
  by_cases hc : regCheck (.mk k0 nm l) g = 0
  · have HMC := As.mk (fun (W : World) (hu : Pure w W) => (HM.out.pure hu).yesC (c := c) (d := d) hc)
    have hO := mc_ok hc
    have HO := As.mk hO
    have HE := As.mk (show regAccepts (.mk k0 nm l) g word = (decide ((regRun (.mk k0 nm l) g word).2 = word.length) && endsS (mcP g (.mk k0 nm l)) (regRun (.mk k0 nm l) g word).1) by unfold regAccepts; rw [hc]; simp)
    have HRR := As.mk (show regRun (.mk k0 nm l) g word = runS (mcT g (.mk k0 nm l)) (mcF g (.mk k0 nm l)) (mcP g (.mk k0 nm l)) startS word from rfl)
    have hle := runS_le (mcT g (.mk k0 nm l)) (mcF g (.mk k0 nm l)) (mcP g (.mk k0 nm l)) word startS
    have HIN := As.mk (runS_in hO word startS (startS_in _))
    rw [← HRR.out] at hle HIN
    clear hm hw hc hO
    generalize mcT g (.mk k0 nm l) = ts at *
    generalize mcF g (.mk k0 nm l) = fs at *
    generalize mcP g (.mk k0 nm l) = p at *
    generalize regRun (.mk k0 nm l) g word = rr at *
    generalize regAccepts (.mk k0 nm l) g word = acc at *
    obtain ⟨S, n⟩ := rr
    go_enter Tryz.func71, Tryz.ntmps71
    go_wp2_with (go_at_call 135; refine (HMC.out _ (Upd.alloc1 _ _ _)).mono ?_; rintro e w1 ⟨mb, rfl, hmac, hu⟩; have HU := As.mk (Upd.trans (Upd.alloc1 (fun _ => False) _ _) hu (fun _ _ h => h)); have HMAC := As.mk hmac; clear hmac hu; apply As.out)
    refine ⟨?_⟩
    have HRUN := As.mk (run_calls (c := cw) HMAC.out HO.out (Rp.row_pure HW.out HU.out) hb)
    rw [← HRR.out] at HRUN
    go_wp2_with (go_at_call 136; refine HRUN.out.mono ?_; rintro e w2 ⟨sb, rfl, hset, hu2⟩; have HS2 := As.mk (And.intro hset hu2); clear hset hu2; apply As.out)
    refine ⟨?_⟩
    have HEND := As.mk (ends_calls (HMAC.out.pure HS2.out.2) HO.out HS2.out.1 HIN.out)
    by_cases hn : n = word.length
    · subst hn
      go_wp2_with (go_at_call 137; refine HEND.out.mono ?_; rintro e w3 ⟨rfl, hu3⟩)
      go_ret
      refine ⟨?_, (HU.out.trans HS2.out.2 (fun _ _ h => h)).trans hu3 (fun _ _ h => h)⟩
      rw [HE.out]
      simp
    · have h1 : ((n : Int) == (word.length : Int)) = false := by simp; omega
      have h2 : (n == word.length) = false := by simpa using hn
      go_wp2
      go_ret
      refine ⟨?_, HU.out.trans HS2.out.2 (fun _ _ h => h)⟩
      rw [HE.out]
      simp [hn]
  · have HMC := As.mk (fun (W : World) (hu : Pure w W) => (HM.out.pure hu).noC (c := c) (d := d) hc)
    have HE := As.mk (show regAccepts (.mk k0 nm l) g word = false by unfold regAccepts; simp [hc])
    clear hm hw hc
    go_enter Tryz.func71, Tryz.ntmps71
    go_wp2_with (go_at_call 135; refine (HMC.out _ (Upd.alloc1 _ _ _)).mono ?_; rintro e w1 ⟨rfl, hu⟩; have HU := As.mk (Upd.trans (Upd.alloc1 (fun _ => False) _ _) hu (fun _ _ h => h)); clear hu)
    go_ret
    exact ⟨by rw [HE.out]; rfl, HU.out⟩

set_option maxRecDepth 100000 in
set_option maxHeartbeats 4000000 in
theorem begins_calls {A Bg Aw : Option Addr} {c d cw : Nat} {e : Ex} {g : List Grp} {word : List Int} {w : World} {F : Nat → Prop} (hm : MadeC w A Bg e g) (hw : intR.row w F Aw word) (hb : word.length ≤ 1048576 * 4) :
    Calls Tryz.prog 70 #[e.val A c, .slice Bg g.length d, .slice Aw word.length cw] w fun r w' => r = .returned (.int .i64 (regBegins e g word : Nat)) ∧ Pure w w' := by
  have HM := As.mk hm
  have HW := As.mk hw
  obtain ⟨k0, nm, l⟩ := e
  show Calls Tryz.prog 70 #[.agg #[.int .i64 k0, .string nm, .slice A l.length c], .slice Bg g.length d, .slice Aw word.length cw] w _
  by_cases hc : regCheck (.mk k0 nm l) g = 0
  · have HMC := As.mk (fun (W : World) (hu : Pure w W) => (HM.out.pure hu).yesC (c := c) (d := d) hc)
    have hO := mc_ok hc
    have HO := As.mk hO
    have HE := As.mk (show regBegins (.mk k0 nm l) g word = (regRun (.mk k0 nm l) g word).2 by unfold regBegins; rw [if_pos hc])
    have HRR := As.mk (show regRun (.mk k0 nm l) g word = runS (mcT g (.mk k0 nm l)) (mcF g (.mk k0 nm l)) (mcP g (.mk k0 nm l)) startS word from rfl)
    clear hm hw hc hO
    generalize mcT g (.mk k0 nm l) = ts at *
    generalize mcF g (.mk k0 nm l) = fs at *
    generalize mcP g (.mk k0 nm l) = p at *
    generalize regRun (.mk k0 nm l) g word = rr at *
    generalize regBegins (.mk k0 nm l) g word = acc at *
    obtain ⟨S, n⟩ := rr
    go_enter Tryz.func70, Tryz.ntmps70
    go_wp2_with (go_at_call 135; refine (HMC.out _ (Upd.alloc1 _ _ _)).mono ?_; rintro e w1 ⟨mb, rfl, hmac, hu⟩; have HU := As.mk (Upd.trans (Upd.alloc1 (fun _ => False) _ _) hu (fun _ _ h => h)); have HMAC := As.mk hmac; clear hmac hu; apply As.out)
    refine ⟨?_⟩
    have HRUN := As.mk (run_calls (c := cw) HMAC.out HO.out (Rp.row_pure HW.out HU.out) hb)
    rw [← HRR.out] at HRUN
    go_wp2_with (go_at_call 136; refine HRUN.out.mono ?_; rintro e w2 ⟨sb, rfl, hset, hu2⟩; have HS2 := As.mk (And.intro hset hu2); clear hset hu2)
    go_ret
    refine ⟨?_, HU.out.trans HS2.out.2 (fun _ _ h => h)⟩
    rw [HE.out]
    rfl
  · have HMC := As.mk (fun (W : World) (hu : Pure w W) => (HM.out.pure hu).noC (c := c) (d := d) hc)
    have HE := As.mk (show regBegins (.mk k0 nm l) g word = 0 by unfold regBegins; rw [if_neg hc])
    clear hm hw hc
    go_enter Tryz.func70, Tryz.ntmps70
    go_wp2_with (go_at_call 135; refine (HMC.out _ (Upd.alloc1 _ _ _)).mono ?_; rintro e w1 ⟨rfl, hu⟩; have HU := As.mk (Upd.trans (Upd.alloc1 (fun _ => False) _ _) hu (fun _ _ h => h)); clear hu)
    go_ret
    exact ⟨by rw [HE.out]; rfl, HU.out⟩
end Go.Proofs.YtfapglhdakhbeaaGreatDoor
