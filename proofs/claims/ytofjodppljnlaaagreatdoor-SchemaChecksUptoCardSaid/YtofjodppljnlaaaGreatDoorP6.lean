/- My own texts, packed: NetX, One6, Check6, May6P, MayW, May6, Holds, Holds6, Par6, Par7, Par8, Sch6, Own3, NewD, HeldV. -/
import Derived.Test.YtofjodppljnlaaaGreatDoorP5
namespace Go.Proofs.YtofjodppljnlaaaGreatDoor
open Go.RowKit
set_option linter.unusedVariables false
set_option linter.unusedSimpArgs false
structure RunR (N : NetD) (word : List Int) (k : Nat) (out : List Bool) : Prop where
  le : k ≤ word.length
  plc : Plc N (word.take k) out
  live : ∃ j, Rch N.E 0 (word.take k) j
  stop : k < word.length → ¬ ∃ j, Rch N.E 0 (word.take (k + 1)) j
set_option maxRecDepth 100000 in
set_option maxHeartbeats 4000000 in
theorem run6_calls {w : World} {nb : Nat} {N : NetD} {G : Nat → Prop} {Aw : Option Addr} {cw : Nat} {word : List Int} (hN : NetV w nb N) (ok : N.Ok) (h0 : 0 < N.nx.length) (hb : N.nx.length ≤ 1048576) (hrow : ∀ x ∈ N.tos, x.length ≤ 1048576) (hby : ∀ x ∈ N.bys, x.length ≤ 1048576) (hw : intR.row w G Aw word) (hwl : word.length ≤ 1048576 * 4) :
    Calls Tryz.prog 135 #[.pointer (some ⟨nb, 0, none⟩), .slice Aw word.length cw] w fun r w' => (∃ g cap out k, r = .returned (.tuple #[.slice (some ⟨g, 0, none⟩) N.nx.length cap, .int .i64 (k : Nat)]) ∧ BoolO w' (fun k => w.heap.size ≤ k) (.slice (some ⟨g, 0, none⟩) N.nx.length cap) out ∧ RunR N word k out) ∧ Pure w w' := by
  have HN := As.mk hN
  have HK := As.mk ok
  have HR := As.mk hrow
  have HBL := As.mk hby
  have HW := As.mk hw
  clear hN ok hrow hby hw
  go_enter Tryz.func135, Tryz.ntmps135
  go_wp2_with (go_at_call 172; refine (nfirst_calls HN.out HK.out h0 hb HR.out).mono ?_; rintro r w1 ⟨⟨v1, out, rfl, ho, hp⟩, hu⟩; have HO1 := As.mk ho; have HP1 := As.mk hp; have HU1 := As.mk hu; obtain ⟨gb, cap, rfl, _, _⟩ := bool_form2 ho hp.len h0; clear ho hp hu)
  go_loopg [6, 7] word.length (fun g iv i wr => ∃ (k gb cap : Nat) (out : List Bool), k + g = word.length ∧ iv = .slice (some ⟨gb, 0, none⟩) N.nx.length cap ∧ i = .int .i64 k ∧ As (Plc N (word.take k) out ∧ ∃ j, Rch N.E 0 (word.take k) j) ∧ As (BoolO wr (fun k => w.heap.size ≤ k) (.slice (some ⟨gb, 0, none⟩) N.nx.length cap) out) ∧ As (Pure w wr))
  case atStart => exact ⟨0, gb, cap, out, by omega, rfl, rfl, ⟨HP1.out, 0, .nil 0⟩, HO1, HU1⟩
  case round =>
    obtain ⟨k, gb, cap, out, hk, rfl, rfl, HPL, HO, HP⟩ := hrel
    by_cases hlt : k < word.length
    · obtain ⟨x, hx⟩ : ∃ x, word[k]? = some x := ⟨_, List.getElem?_eq_getElem hlt⟩
      obtain ⟨b, o, rfl, _, _, d0⟩ := int_at (Rp.row_pure HW.out HP.out) hx
      obtain ⟨g1, rfl⟩ : ∃ m, gk = m + 1 := ⟨gk - 1, by omega⟩
      have HE := As.mk (show word.take k ++ [x] = word.take (k + 1) by rw [List.take_add_one, hx]; rfl)
      have HKK := As.mk hk
      have HRB := As.mk (bool_row HO.out)
      clear hk hx
      go_wp2_with (go_at_call 173; refine (step_calls2 x (HN.out.pure HP.out) HK.out h0 hb HR.out HBL.out HRB.out HPL.out.1).mono ?_; rintro r w2 ⟨⟨v2, out2, s2, rfl, ho, hs⟩, hu⟩; rw [HE.out] at hs; have HO2 := As.mk ho; have HS2 := As.mk hs; have HU2 := As.mk hu; obtain ⟨gb2, cap2, rfl, _, _⟩ := bool_form2 ho hs.plc.len h0; clear ho hs hu; apply As.out)
      refine ⟨?_⟩
      cases s2 with
      | false =>
        go_wp2
        go_simp
        refine bodyPost_ret (results_tmp2 rfl _ _ _) rfl ?_
        exact ⟨⟨gb, cap, out, k, rfl, (by exact Rp.own_upd HO.out HU2.out (fun _ _ _ h => h)), ⟨by omega, HPL.out.1, HPL.out.2, fun _ h => by have := HS2.out.any.2 h; cases this⟩⟩, HP.out.trans HU2.out (fun _ _ h => h)⟩
      | true =>
        go_wp2
        go_roundg g1
        case measure => omega
        case rel => exact ⟨k + 1, gb2, cap2, out2, by have := HKK.out; omega, rfl, by go_num, ⟨HS2.out.plc, HS2.out.any.1 rfl⟩, ⟨Rp.own_fp HO2.out (fun q hq => by have := HP.out.size; omega)⟩, ⟨HP.out.trans HU2.out (fun _ _ h => h)⟩⟩
    · have hkl : k = word.length := by omega
      subst hkl
      go_wp2
      go_simp
      refine bodyPost_ret (results_tmp2 rfl _ _ _) rfl ?_
      exact ⟨⟨gb, cap, out, word.length, rfl, HO.out, ⟨Nat.le_refl _, HPL.out.1, HPL.out.2, fun h => by omega⟩⟩, HP.out⟩
mutual
theorem layE_bys (ty : ByteArray → List Int) (m : Nat) (hty : ∀ nm, (ty nm).length ≤ m) : ∀ (e : Ex) (a b : Nat) (N : NetD), (∀ x ∈ N.bys, x.length ≤ m) → ∀ x ∈ (layE ty e a b N).bys, x.length ≤ m
  | .mk k nm l, a, b, N, h => by
    have hp : ∀ N : NetD, (∀ x ∈ N.bys, x.length ≤ m) → ∀ x ∈ N.place.bys, x.length ≤ m := fun N h x hx => by
      rcases List.mem_append.1 (show x ∈ N.bys ++ [[]] from hx) with hx | hx
      · exact h x hx
      · rw [List.mem_singleton.1 hx]; exact Nat.zero_le _
    have hf : ∀ (N : NetD) (a b : Nat), (∀ x ∈ N.bys, x.length ≤ m) → ∀ x ∈ (N.free a b).bys, x.length ≤ m := fun N a b h => h
    unfold layE
    by_cases h0 : k = 0
    · rw [if_pos h0]; exact hf _ _ _ h
    · rw [if_neg h0]
      by_cases h1 : k = 1
      · rw [if_pos h1]
        intro x hx
        rcases List.mem_or_eq_of_mem_set (show x ∈ ((N.place.free a N.nx.length).bys).set N.nx.length (ty nm) from hx) with hx | hx
        · exact hp N h x hx
        · rw [hx]; exact hty nm
      · rw [if_neg h1]
        by_cases h2 : k = 2
        · rw [if_pos h2]; exact laySeq_bys ty m hty l a b N h
        · rw [if_neg h2]
          by_cases h3 : k = 3
          · rw [if_pos h3]; exact layAlt_bys ty m hty l a b N h
          · rw [if_neg h3]
            have i4 := layOne_bys ty m hty l N.nx.length (N.nx.length + 1) (N.place.place.free a N.nx.length) (hf _ _ _ (hp _ (hp _ h)))
            dsimp only
            split <;> split <;> exact i4
theorem laySeq_bys (ty : ByteArray → List Int) (m : Nat) (hty : ∀ nm, (ty nm).length ≤ m) : ∀ (l : List Ex) (a b : Nat) (N : NetD), (∀ x ∈ N.bys, x.length ≤ m) → ∀ x ∈ (laySeq ty l a b N).bys, x.length ≤ m
  | [], a, b, N, h => by unfold laySeq; exact h
  | x :: r, a, b, N, h => by
    unfold laySeq
    refine laySeq_bys ty m hty r _ _ _ (layE_bys ty m hty x _ _ _ fun y hy => ?_)
    rcases List.mem_append.1 (show y ∈ N.bys ++ [[]] from hy) with hy | hy
    · exact h y hy
    · rw [List.mem_singleton.1 hy]; exact Nat.zero_le _
theorem layAlt_bys (ty : ByteArray → List Int) (m : Nat) (hty : ∀ nm, (ty nm).length ≤ m) : ∀ (l : List Ex) (a b : Nat) (N : NetD), (∀ x ∈ N.bys, x.length ≤ m) → ∀ x ∈ (layAlt ty l a b N).bys, x.length ≤ m
  | [], a, b, N, h => by unfold layAlt; exact h
  | x :: r, a, b, N, h => by unfold layAlt; exact layAlt_bys ty m hty r _ _ _ (layE_bys ty m hty x _ _ _ h)
theorem layOne_bys (ty : ByteArray → List Int) (m : Nat) (hty : ∀ nm, (ty nm).length ≤ m) : ∀ (l : List Ex) (a b : Nat) (N : NetD), (∀ x ∈ N.bys, x.length ≤ m) → ∀ x ∈ (layOne ty l a b N).bys, x.length ≤ m
  | [], a, b, N, h => by unfold layOne; exact h
  | x :: r, a, b, N, h => by unfold layOne; exact layE_bys ty m hty x _ _ _ h
end
theorem typesOf_len {g : List Grp} {m : Nat} (h : ∀ x ∈ g, x.types.length ≤ m) (nm : ByteArray) : (typesOf g nm).length ≤ m := by
  induction g with
  | nil => simp [typesOf]
  | cons x r ih =>
    unfold typesOf
    split
    · exact h x (List.mem_cons_self ..)
    · exact ih (fun y hy => h y (List.mem_cons_of_mem _ hy))
structure NetB (N : NetD) : Prop where
  ok : N.Ok
  pos : 0 < N.nx.length
  two : 1 < N.nx.length
  le : N.nx.length ≤ 1048576
  tos : ∀ x ∈ N.tos, x.length ≤ 1048576
  bys : ∀ x ∈ N.bys, x.length ≤ 1048576
theorem netB {g : List Grp} {e : Ex} (hc : e.cnt ≤ 100000) (hg : ∀ x ∈ g, x.types.length ≤ 1048576) : NetB (netOf (typesOf g) e) := by
  have hL := net_laid (typesOf g) e
  have hle : 2 ≤ (netOf (typesOf g) e).nx.length := hL.le
  have hw : (netOf (typesOf g) e).wt + 1 ≤ 2 + 8 * e.cnt := layE_wt (typesOf g) e 0 1 net0
  have hn := (netOf (typesOf g) e).nx_wt
  refine ⟨hL.ok, by omega, by omega, by omega, fun x hx => ?_, layE_bys (typesOf g) 1048576 (typesOf_len hg) e 0 1 net0 (fun x hx => by simp [net0] at hx; rw [hx]; exact Nat.zero_le _)⟩
  obtain ⟨i, hi⟩ := List.getElem?_of_mem hx
  have := NetD.wt_row hi
  omega
theorem run_acc {g : List Grp} {e : Ex} {word : List Int} {k : Nat} {out : List Bool} (hc : regCheck e g = 0) (h : RunR (netOf (typesOf g) e) word k out) : regAccepts e g word = (decide (k = word.length) && out.getD 1 false) ∧ regBegins e g word = k := by
  have hl := check_live hc
  have hacc : regAccepts e g word = true ↔ Rch (netOf (typesOf g) e).E 0 word 1 := by
    rw [accepts_iff, net_word]
    exact ⟨fun h => (acc_lang hc word).1 h.2, fun h => ⟨hc, (acc_lang hc word).2 h⟩⟩
  constructor
  · rw [Bool.eq_iff_iff, hacc, Bool.and_eq_true, decide_eq_true_eq]
    constructor
    · intro hr
      by_cases hk : k = word.length
      · refine ⟨hk, (h.plc.iff 1).2 ?_⟩
        rw [hk, List.take_length]
        exact hr
      · exfalso
        have hlt : k < word.length := by have := h.le; omega
        obtain ⟨r, h1, _⟩ := hr.split (word.take (k + 1)) (word.drop (k + 1)) (List.take_append_drop _ _).symm
        exact h.stop hlt ⟨r, h1⟩
    · rintro ⟨hk, ho⟩
      have := (h.plc.iff 1).1 ho
      rw [hk, List.take_length] at this
      exact this
  · have e1 : regBegins e g word = (regRun e g word).2 := by unfold regBegins; rw [if_pos hc]
    rw [e1]
    refine run_eq hc word k h.le ((live_lang hc _).2 ((net_live _ e hl _).1 h.live)) (fun hlt hL => h.stop hlt ((net_live _ e hl _).2 ((live_lang hc _).1 hL)))
theorem Rp.row_here {α : Type} {d : Rp α} {w : World} {F : Nat → Prop} {A : Option Addr} {xs : List α} (h : d.row w F A xs) : d.row w (fun k => k < w.heap.size) A xs := Rp.row_move (fun _ _ hl => ⟨hl, hl, rfl⟩) h
theorem check_cnt {g : List Grp} {e : Ex} (h : regCheck e g = 0) : e.cnt ≤ 200 := by
  unfold regCheck at h
  by_cases h0 : exprCheck e = 0
  · unfold exprCheck at h0
    split at h0
    · cases h0
    · omega
  · exfalso; revert h; simp [h0]
/-- The net of a right tree, made. -/
theorem made6 {w : World} {F G : Nat → Prop} {A Ag : Option Addr} {c cg : Nat} {e : Ex} {g : List Grp} (hr : exR.row w F A e.l) (hgr : grpR.row w G Ag g) (hc : regCheck e g = 0) (hgl : g.length ≤ 1048576) :
    Calls Tryz.prog 134 #[e.val A c, .slice Ag g.length cg] w fun r w' => (∃ nb, r = .returned (.pointer (some ⟨nb, 0, none⟩)) ∧ NetV w' nb (netOf (typesOf g) e)) ∧ Pure w w' :=
  made_calls (Rp.row_here hr) (Rp.row_here hgr) (fun _ h => h) (fun _ h => h) (check_live hc) (by have := check_cnt hc; omega) hgl
set_option maxRecDepth 100000 in
set_option maxHeartbeats 4000000 in
theorem accepts6_calls {F G H : Nat → Prop} {A B Aw : Option Addr} {c d cw : Nat} {e : Ex} {g : List Grp} {word : List Int} {w : World} (hr : exR.row w F A e.l) (hg : grpR.row w G B g) (hw : intR.row w H Aw word) (hb : e.wt ≤ 1048576 * 4) (hgl : g.length ≤ 1048576) (hgt : ∀ x ∈ g, x.types.length ≤ 1048576) (hwl : word.length ≤ 1048576 * 4) :
    Calls Tryz.prog 70 #[e.val A c, .slice B g.length d, .slice Aw word.length cw] w fun r w' => r = .returned (.bool (regAccepts e g word)) ∧ Pure w w' := by
  have HCK := As.mk (fun W (hu : Pure w W) => regCheck6_calls (c := c) (d := d) (Rp.row_pure hr hu) (Rp.row_pure hg hu) hb hgl hgt)
  have HMD := As.mk (fun W (hu : Pure w W) (hc : regCheck e g = 0) => made6 (c := c) (cg := d) (Rp.row_pure hr hu) (Rp.row_pure hg hu) hc hgl)
  have HNB := As.mk (fun (hc : regCheck e g = 0) => netB (g := g) (e := e) (by have := check_cnt hc; omega) hgt)
  have HRN := As.mk (fun (hc : regCheck e g = 0) (k : Nat) (out : List Bool) (h : RunR (netOf (typesOf g) e) word k out) => run_acc hc h)
  have HF := As.mk (show regCheck e g ≠ 0 → regAccepts e g word = false from fun h => by unfold regAccepts; simp [h])
  have HW := As.mk hw
  clear hr hg hw hgt
  obtain ⟨k0, nm, l⟩ := e
  show Calls Tryz.prog 70 #[.agg #[.int .i64 k0, .string nm, .slice A l.length c], .slice B g.length d, .slice Aw word.length cw] w _
  generalize hN : netOf (typesOf g) (.mk k0 nm l) = N at *
  generalize regAccepts (.mk k0 nm l) g word = acc at *
  generalize regBegins (.mk k0 nm l) g word = beg at *
  unfold Ex.val at *
  generalize hrc : regCheck (.mk k0 nm l) g = rc at *
  clear hrc hN
  have hbx := BoxE.new w k0 nm l.length A c 92
  by_cases h0 : rc = 0
  · subst h0
    have HNB2 := As.mk (HNB.out rfl)
    have HMD2 := As.mk (fun W (hu : Pure w W) => HMD.out W hu rfl)
    have HRN2 := As.mk (HRN.out rfl)
    clear HNB HMD HRN HF
    go_enter Tryz.func70, Tryz.ntmps70
    go_wp2_with (go_at_call 133; refine (HCK.out _ (Upd.alloc1 _ _ _)).mono ?_; rintro e w1 ⟨rfl, hu⟩; have HU1 := As.mk hu; clear hu; apply As.out)
    refine ⟨?_⟩
    obtain ⟨q0, q1, q2, q3⟩ := hbx.pure HU1.out
    have HP1 : As (Pure w w1) := ⟨(Upd.alloc1 _ _ _).trans HU1.out (fun _ _ h => h)⟩
    go_wp2_with (first | (go_at_call 135; refine (run6_calls HNV.out HNB2.out.ok HNB2.out.pos HNB2.out.le HNB2.out.tos HNB2.out.bys (Rp.row_pure HW.out HP2.out) hwl).mono ?_; rintro r w3 ⟨⟨gb, cap, out, k, rfl, ho, hrr⟩, hu⟩; have HO := As.mk ho; have HRR := As.mk hrr; have HU3 := As.mk hu; have hk := hrr.le; clear ho hrr hu; apply As.out) | (go_at_call 134; refine (HMD2.out _ HP1.out).mono ?_; rintro e w2 ⟨⟨nb, rfl, hnv⟩, hu⟩; have HNV := As.mk hnv; have HP2 := As.mk (HP1.out.trans hu (fun _ _ h => h)); clear hu hnv))
    refine ⟨?_⟩
    obtain ⟨b1, hb1⟩ : ∃ b, out[1]? = some b := ⟨_, List.getElem?_eq_getElem (by rw [HRR.out.plc.len]; exact HNB2.out.two)⟩
    obtain ⟨u0, u1⟩ := bool_cell2 HO.out HRR.out.plc.len hb1
    have h11 : (1 : Int) < (N.nx.length : Int) := by have := HNB2.out.two; omega
    have HA := As.mk (HRN2.out k out HRR.out).1
    have HB1 := As.mk (getD_of (d := false) hb1)
    clear hb1
    by_cases hkl : k = word.length
    · subst hkl
      go_wp2
      go_ret
      exact ⟨by rw [HA.out, HB1.out]; simp, HP2.out.trans HU3.out (fun _ _ h => h)⟩
    · have hki : ¬ ((k : Int) = (word.length : Int)) := by omega
      have HA2 : As (acc = false) := ⟨by rw [HA.out]; simp [hkl]⟩
      clear hkl
      go_wp2
      go_ret
      exact ⟨by rw [HA2.out]; rfl, HP2.out.trans HU3.out (fun _ _ h => h)⟩
  · have f0 : (rc != 0) = true := by simpa using h0
    have HF2 := As.mk (HF.out h0)
    clear h0
    go_enter Tryz.func70, Tryz.ntmps70
    go_wp2_with (go_at_call 133; refine (HCK.out _ (Upd.alloc1 _ _ _)).mono ?_; rintro e w1 ⟨rfl, hu⟩; have HU1 := As.mk hu; clear hu)
    go_ret
    exact ⟨by rw [HF2.out]; rfl, (Upd.alloc1 _ _ _).trans HU1.out (fun _ _ h => h)⟩
set_option maxRecDepth 100000 in
set_option maxHeartbeats 4000000 in
theorem begins6_calls {F G H : Nat → Prop} {A B Aw : Option Addr} {c d cw : Nat} {e : Ex} {g : List Grp} {word : List Int} {w : World} (hr : exR.row w F A e.l) (hg : grpR.row w G B g) (hw : intR.row w H Aw word) (hb : e.wt ≤ 1048576 * 4) (hgl : g.length ≤ 1048576) (hgt : ∀ x ∈ g, x.types.length ≤ 1048576) (hwl : word.length ≤ 1048576 * 4) :
    Calls Tryz.prog 132 #[e.val A c, .slice B g.length d, .slice Aw word.length cw] w fun r w' => r = .returned (.int .i64 (regBegins e g word : Nat)) ∧ Pure w w' := by
  have HCK := As.mk (fun W (hu : Pure w W) => regCheck6_calls (c := c) (d := d) (Rp.row_pure hr hu) (Rp.row_pure hg hu) hb hgl hgt)
  have HMD := As.mk (fun W (hu : Pure w W) (hc : regCheck e g = 0) => made6 (c := c) (cg := d) (Rp.row_pure hr hu) (Rp.row_pure hg hu) hc hgl)
  have HNB := As.mk (fun (hc : regCheck e g = 0) => netB (g := g) (e := e) (by have := check_cnt hc; omega) hgt)
  have HRN := As.mk (fun (hc : regCheck e g = 0) (k : Nat) (out : List Bool) (h : RunR (netOf (typesOf g) e) word k out) => run_acc hc h)
  have HF := As.mk (show regCheck e g ≠ 0 → regBegins e g word = 0 from fun h => by unfold regBegins; rw [if_neg h])
  have HW := As.mk hw
  clear hr hg hw hgt
  obtain ⟨k0, nm, l⟩ := e
  show Calls Tryz.prog 132 #[.agg #[.int .i64 k0, .string nm, .slice A l.length c], .slice B g.length d, .slice Aw word.length cw] w _
  generalize hN : netOf (typesOf g) (.mk k0 nm l) = N at *
  generalize regAccepts (.mk k0 nm l) g word = acc at *
  generalize regBegins (.mk k0 nm l) g word = beg at *
  unfold Ex.val at *
  generalize hrc : regCheck (.mk k0 nm l) g = rc at *
  clear hrc hN
  have hbx := BoxE.new w k0 nm l.length A c 92
  by_cases h0 : rc = 0
  · subst h0
    have HNB2 := As.mk (HNB.out rfl)
    have HMD2 := As.mk (fun W (hu : Pure w W) => HMD.out W hu rfl)
    have HRN2 := As.mk (HRN.out rfl)
    clear HNB HMD HRN HF
    go_enter Tryz.func132, Tryz.ntmps132
    go_wp2_with (go_at_call 133; refine (HCK.out _ (Upd.alloc1 _ _ _)).mono ?_; rintro e w1 ⟨rfl, hu⟩; have HU1 := As.mk hu; clear hu; apply As.out)
    refine ⟨?_⟩
    obtain ⟨q0, q1, q2, q3⟩ := hbx.pure HU1.out
    have HP1 : As (Pure w w1) := ⟨(Upd.alloc1 _ _ _).trans HU1.out (fun _ _ h => h)⟩
    go_wp2_with (first | (go_at_call 135; refine (run6_calls HNV.out HNB2.out.ok HNB2.out.pos HNB2.out.le HNB2.out.tos HNB2.out.bys (Rp.row_pure HW.out HP2.out) hwl).mono ?_; rintro r w3 ⟨⟨gb, cap, out, k, rfl, ho, hrr⟩, hu⟩; have HRR := As.mk hrr; have HU3 := As.mk hu; have hk := hrr.le; clear ho hrr hu) | (go_at_call 134; refine (HMD2.out _ HP1.out).mono ?_; rintro e w2 ⟨⟨nb, rfl, hnv⟩, hu⟩; have HNV := As.mk hnv; have HP2 := As.mk (HP1.out.trans hu (fun _ _ h => h)); clear hu hnv))
    go_ret
    exact ⟨by rw [(HRN2.out _ _ HRR.out).2]; rfl, HP2.out.trans HU3.out (fun _ _ h => h)⟩
  · have f0 : (rc != 0) = true := by simpa using h0
    have HF2 := As.mk (HF.out h0)
    clear h0
    go_enter Tryz.func132, Tryz.ntmps132
    go_wp2_with (go_at_call 133; refine (HCK.out _ (Upd.alloc1 _ _ _)).mono ?_; rintro e w1 ⟨rfl, hu⟩; have HU1 := As.mk hu; clear hu)
    go_ret
    exact ⟨by rw [HF2.out]; rfl, (Upd.alloc1 _ _ _).trans HU1.out (fun _ _ h => h)⟩
end Go.Proofs.YtofjodppljnlaaaGreatDoor
namespace Go.Proofs.YtofjodppljnlaaaGreatDoor
open Go.RowKit
set_option linter.unusedVariables false
set_option linter.unusedSimpArgs false
/-- What a place around may be. -/
def InP (l : List Tok) (n : Int) : Prop := n < 0 ∨ ∃ (j k : Nat) (y : Tok), n = (j : Int) ∧ l[j]? = some y ∧ k < 7 ∧ y.t = ((k + 1 : Nat) : Int)
theorem rule6_calls {w : World} {cb : Nat} {F : Nat → Prop} {A : Option Addr} {c : Nat} {l : List Tok} (h : H6 w cb) (hr : tokR.row w F A l) {n : Int} (hn : InP l n) : Calls Tryz.prog 78 #[.pointer (some ⟨cb, 0, none⟩), .slice A l.length c, .int .i64 n] w fun r w' => (∃ A1 c1, r = .returned ((rule6 l n).2.val A1 c1) ∧ exR.row w' AnyB A1 (rule6 l n).2.l) ∧ Pure w w' := by
  unfold rule6
  by_cases h0 : n < 0
  · rw [if_pos h0, show (ruleOf houseRules 0).2 = houseE0 from rfl]
    exact rule6_whole h h0
  · rw [if_neg h0]
    rcases hn with h1 | ⟨j, k, y, rfl, hy, hk, hyt⟩
    · exact absurd h1 h0
    · obtain ⟨x, e, _, he, hR⟩ := h6_at k hk
      have : (ruleOf houseRules (tyAt l (j : Int))).2 = e := by
        unfold tyAt
        rw [Int.toNat_natCast, hy]
        show (ruleOf houseRules y.t).2 = e
        rw [hyt, rule_get hR]
      rw [this]
      exact rule6_in h hr hy hk hyt he
theorem token6_calls {w : World} {cb : Nat} {F : Nat → Prop} {A : Option Addr} {c : Nat} {l : List Tok} (h : H6 w cb) (hr : tokR.row w F A l) {i : Nat} {x : Tok} (hx : l[i]? = some x) {n : Int} (hn : InP l n) : Calls Tryz.prog 131 #[.pointer (some ⟨cb, 0, none⟩), .slice A l.length c, .int .i64 i, .int .i64 n] w fun r w' => r = .returned (.bool (token6 (specAt l n) x)) ∧ Pure w w' := by
  by_cases hk : x.k = 0
  · unfold specAt
    by_cases h0 : n < 0
    · rw [if_pos h0]
      exact token6_rune_out hr hx hk h0
    · rw [if_neg h0]
      rcases hn with h1 | ⟨j, k, y, rfl, hy, _, _⟩
      · exact absurd h1 h0
      · have : tyAt l (j : Int) = y.t := by unfold tyAt; rw [Int.toNat_natCast, hy]; rfl
        rw [this]
        exact token6_rune_in h hr hx hk hy
  · exact token6_else h hr hx hk
theorem rule_wt (t : Int) : (ruleOf houseRules t).2.wt ≤ 1048576 * 4 := by
  obtain ⟨i, hi, h⟩ := house_rule t
  rw [h]
  have h : ((List.range 9).all fun i => decide ((ruleOf houseRules (i : Int)).2.wt ≤ 1048576 * 4)) = true := by kernel_rfl
  simpa using List.all_eq_true.1 h i (List.mem_range.2 hi)
theorem rule6_wt (l : List Tok) (n : Int) : (rule6 l n).2.wt ≤ 1048576 * 4 := by
  unfold rule6
  split <;> exact rule_wt _
theorem at_in6 {l : List Tok} {k : Nat} (hk : k ≤ l.length) {top : Lev} {below : List Lev} (h : hRun hTop [] (l.take k) = some (top, below)) : InP l (aroundL l k) ∧ ∃ a : Nat, aroundL l k = (a : Int) - 1 ∧ a ≤ k := by
  have HL := run_lv hk h
  unfold aroundL
  rcases HL.inv with ⟨h1, _, _⟩ | ⟨j, yt, y, h1, hy, hy1, hyt, hyt1, hR, hj, h3⟩
  · rw [h1]
    exact ⟨.inl (by omega), 0, by omega, by omega⟩
  · rw [h1]
    have h8 : yt < 8 := by have := (List.getElem?_eq_some_iff.1 hR).1; rw [house_len] at this; exact this
    exact ⟨.inr ⟨j, yt - 1, y, rfl, hy, by omega, by rw [hyt]; congr 1; omega⟩, j + 1, by omega, by omega⟩
set_option maxRecDepth 100000 in
set_option maxHeartbeats 4000000 in
theorem one6_shut {w : World} {cb : Nat} {F : Nat → Prop} {A : Option Addr} {c : Nat} {l : List Tok} (h : H6 w cb) (hr : tokR.row w F A l) (hb : l.length ≤ 2048) (hlc : l.length ≤ c) {k : Nat} {x : Tok} (hx : l[k]? = some x) (h2 : x.k = 2) {top : Lev} {below : List Lev} (hrun : hRun hTop [] (l.take k) = some (top, below)) :
    Calls Tryz.prog 69 #[.pointer (some ⟨cb, 0, none⟩), .slice A l.length c, .int .i64 k] w fun r w' => r = .returned (.bool (one6 l k x)) ∧ Pure w w' := by
  have hk := (List.getElem?_eq_some_iff.1 hx).1
  obtain ⟨hin, a, ha, hak⟩ := at_in6 (by omega) hrun
  unfold one6
  rw [if_pos h2]
  have HAR := As.mk (around4_calls (c := c) (at' := (k : Int)) hr (by omega) hlc)
  have HWD := As.mk (fun W (hu : Pure w W) => word6_calls (c := c) (a := a) (b := k) (i := aroundL l k) (Rp.row_pure hr hu) (by omega) (by omega) hak ha)
  have HRU := As.mk (fun W (hu : Pure w W) => rule6_calls (c := c) (h.pure hu) (Rp.row_pure hr hu) hin)
  obtain ⟨bt, ot, rfl, _, hbt, q0, q1, q2, q3⟩ := tok_at hr hx
  obtain ⟨AW, cW, AL, cL, AE, cE, AG, cG, hcb, c0, c1, c2, c3, c4, c5, _, _, _, hg⟩ := h.cells
  have HG := As.mk hg
  have HOK := As.mk (And.intro house_ok.gl house_ok.gt)
  have HEW := As.mk (rule6_wt l (aroundL l k))
  generalize houseGroups = gs at *
  generalize (rule6 l (aroundL l k)).2 = e at *
  generalize wordL l (aroundL l k) k = wd at *
  generalize aroundL l k = n at *
  rw [h2] at q0
  have hil : (k : Int) < (l.length : Int) := by omega
  clear hr hx h2 hrun h hg ha hin c0 c1 c2 c3 c4 q1 q2 q3
  go_enter Tryz.func69, Tryz.ntmps69
  go_wp2_with (first | (go_at_call 71; refine (HWD.out _ HU1.out).mono ?_; rintro r w2 ⟨v, rfl, ho, hwl, hu⟩; have HO := As.mk ho; have HWL := As.mk hwl; have HU2 := As.mk (HU1.out.trans hu (fun _ _ h => h)); clear ho hu hwl; apply As.out) | (go_at_call 74; refine HAR.out.mono ?_; rintro r w1 ⟨rfl, hu⟩; have HU1 := As.mk hu; clear hu))
  refine ⟨?_⟩
  obtain ⟨Av, cv, rfl, _, hrow⟩ := Rp.own_slice HO.out
  have HW := As.mk (Rp.row_here hrow)
  clear hrow
  have q0' := (HU2.out.cell hbt (fun h => h)).trans q0
  have hbt' := Nat.lt_of_lt_of_le hbt HU2.out.size
  have HS : As (∀ v, Pure w v → v.cell? ⟨cb, 5, none⟩ = some (.slice AG gs.length cG)) := ⟨fun v hu => (hu.cell hcb (fun h => h)).trans c5⟩
  have HUD := As.mk HU2.out.drew
  have HWD2 := As.mk (Rp.row_pure HW.out (Upd.refl (fun _ => False) _).drew)
  clear c5 q0
  go_wp2
  refine wp_region_T (P := Tryz.prog) (fun v => v.cell? ⟨cb, 5, none⟩ = some (.slice AG gs.length cG)) 10 (by kernel_rfl) ?_ (fun hHeld => ?_)
  · first | exact HS.out _ HU4.out | exact HS.out _ HU3.out | exact HS.out _ HUD.out
  refine zT 0 ?_
  (try simp only [Act.put, sA, sB, sC])
  refine zT 1 ?_
  (try simp only [Act.put, sA, sB, sC])
  refine zT 2 ?_
  (try simp only [Act.put, sA, sB, sC])
  refine zT 4 ?_
  (try simp only [Act.put, sA, sB, sC])
  refine zT 5 ?_
  (try simp only [Act.put, sA, sB, sC])
  refine zT 6 ?_
  (try simp only [Act.put, sA, sB, sC])
  refine zT 7 ?_
  (try simp only [Act.put, sA, sB, sC])
  refine zT 8 ?_
  (try simp only [Act.put, sA, sB, sC])
  refine oT 3 (fun K hK => ?_)
  go_simp
  (go_at_call 78; refine (HRU.out _ HUD.out).mono ?_; rintro r w3 ⟨⟨A1, c1, rfl, hrw⟩, hu⟩; have HX := As.mk hrw; have HP3 := As.mk hu; have HU3 := As.mk (HUD.out.trans hu (fun _ _ h => h)); clear hrw hu)
  refine hK.out _ _ (fun _ => by first | exact HS.out _ HU4.out | exact HS.out _ HU3.out | exact HS.out _ HUD.out) (fun hHeld => ?_)
  replace hHeld := hHeld (by decide)
  clear hK K
  (try simp only [Act.put, sA, sB, sC])
  refine oT 9 (fun K hK => ?_)
  go_simp
  (go_at_call 70; refine (accepts6_calls HX.out (Rp.row_pure HG.out HU3.out) (Rp.row_pure HWD2.out HP3.out) HEW.out HOK.out.1 HOK.out.2 (by have := HWL.out; omega)).mono ?_; rintro r w4 ⟨rfl, hu⟩; have HU4 := As.mk (HU3.out.trans hu (fun _ _ h => h)); clear hu)
  refine hK.out _ _ (fun _ => by first | exact HS.out _ HU4.out | exact HS.out _ HU3.out | exact HS.out _ HUD.out) (fun hHeld => ?_)
  replace hHeld := hHeld (by decide)
  clear hK K
  (try simp only [Act.put, sA, sB, sC])
  refine oT 10 (fun K hK => ?_)
  go_simp
  refine hK.out _ _ (fun h => absurd rfl h) (fun hHeld => ?_)
  clear hK K
  (try simp only [Act.put, sA, sB, sC])
  refine wpAnyT_done (by kernel_rfl) ?_ _
  go_wp2
  go_ret
  exact ⟨rfl, HU4.out⟩
set_option maxRecDepth 100000 in
set_option maxHeartbeats 4000000 in
theorem one6_more {w : World} {cb : Nat} {F : Nat → Prop} {A : Option Addr} {c : Nat} {l : List Tok} (h : H6 w cb) (hr : tokR.row w F A l) (hb : l.length ≤ 2048) (hlc : l.length ≤ c) {k : Nat} {x : Tok} (hx : l[k]? = some x) (h2 : x.k ≠ 2) {top : Lev} {below : List Lev} (hrun : hRun hTop [] (l.take k) = some (top, below)) :
    Calls Tryz.prog 69 #[.pointer (some ⟨cb, 0, none⟩), .slice A l.length c, .int .i64 k] w fun r w' => r = .returned (.bool (one6 l k x)) ∧ Pure w w' := by
  have hk := (List.getElem?_eq_some_iff.1 hx).1
  obtain ⟨hin, a, ha, hak⟩ := at_in6 (by omega) hrun
  unfold one6
  rw [if_neg h2]
  have HAR := As.mk (around4_calls (c := c) (at' := (k : Int)) hr (by omega) hlc)
  have HWD := As.mk (fun W (hu : Pure w W) => word6_calls (c := c) (a := a) (b := k) (i := aroundL l k) (Rp.row_pure hr hu) (by omega) (by omega) hak ha)
  have HRU := As.mk (fun W (hu : Pure w W) => rule6_calls (c := c) (h.pure hu) (Rp.row_pure hr hu) hin)
  have HTK := As.mk (fun W (hu : Pure w W) => token6_calls (c := c) (h.pure hu) (Rp.row_pure hr hu) hx hin)
  obtain ⟨bt, ot, rfl, _, hbt, q0, q1, q2, q3⟩ := tok_at hr hx
  obtain ⟨AW, cW, AL, cL, AE, cE, AG, cG, hcb, c0, c1, c2, c3, c4, c5, _, _, _, hg⟩ := h.cells
  have HG := As.mk hg
  have HOK := As.mk (And.intro house_ok.gl house_ok.gt)
  have HEW := As.mk (rule6_wt l (aroundL l k))
  generalize token6 (specAt l (aroundL l k)) x = tv at *
  generalize houseGroups = gs at *
  generalize (rule6 l (aroundL l k)).2 = e at *
  generalize wordL l (aroundL l k) k = wd at *
  generalize aroundL l k = n at *
  have hil : (k : Int) < (l.length : Int) := by omega
  have e2 : (x.k == 2) = false := by simp [h2]
  clear hr hx h2 hrun h hg ha hin c0 c1 c2 c3 c4 q2 q3
  go_enter Tryz.func69, Tryz.ntmps69
  go_wp2_with (first | (go_at_call 71; refine (HWD.out _ HU1.out).mono ?_; rintro r w2 ⟨v, rfl, ho, hwl, hu⟩; have HO := As.mk ho; have HWL := As.mk hwl; have HU2 := As.mk (HU1.out.trans hu (fun _ _ h => h)); clear ho hu hwl; apply As.out) | (go_at_call 74; refine HAR.out.mono ?_; rintro r w1 ⟨rfl, hu⟩; have HU1 := As.mk hu; clear hu))
  refine ⟨?_⟩
  have q0' := (HU2.out.cell hbt (fun h => h)).trans q0
  have hbt' := Nat.lt_of_lt_of_le hbt HU2.out.size
  have HQ1 := As.mk q1
  have HC5 := As.mk c5
  clear q0 q1 c5
  cases tv with
  | false =>
    go_wp2_with (go_at_call 131; refine (HTK.out _ HU2.out).mono ?_; rintro r w3 ⟨rfl, hu⟩; have HU3 := As.mk (HU2.out.trans hu (fun _ _ h => h)); clear hu)
    go_ret
    exact ⟨rfl, HU3.out⟩
  | true =>
    go_wp2_with (go_at_call 131; refine (HTK.out _ HU2.out).mono ?_; rintro r w3 ⟨rfl, hu⟩; have HU3 := As.mk (HU2.out.trans hu (fun _ _ h => h)); have HO3 := As.mk (Rp.own_upd HO.out hu (fun _ _ _ h => h)); clear hu; apply As.out)
    refine ⟨?_⟩
    have r1 := (HU3.out.cell hbt (fun h => h)).trans HQ1.out
    have hbt3 := Nat.lt_of_lt_of_le hbt HU3.out.size
    clear q0'
    go_wp2_with (at_builtin; refine Rp.own_append intRS HO3.out x.t [.int .i64 x.t] rfl (Fp := fun _ => False) (G := fun q => w.heap.size ≤ q) (fun _ h => h.elim) (fun _ h _ => by have := HU1.out.size; omega) (fun q hq => by have := HU3.out.size; omega) rfl _ _ 83 _ 8 rfl Tryz.underlying83 int_infoS rfl (by decide) (by decide) rfl (by simp [Act.eval]) (by have := HWL.out; omega) ?_; intro v1 w4 ho1 hu1; have HO4 := As.mk ho1; have HU4 := As.mk (HU3.out.trans hu1 (fun q hq h => by have := (Rp.own_block_lt HO3.out q h).1; have := HU1.out.size; omega)); clear ho1 hu1; apply As.out)
    refine ⟨?_⟩
    obtain ⟨Av, cv, rfl, _, hrow⟩ := Rp.own_slice HO4.out
    have HW := As.mk (Rp.row_pure (Rp.row_here hrow) (Upd.refl (fun _ => False) _).drew)
    clear hrow
    have HS : As (∀ v, Pure w v → v.cell? ⟨cb, 5, none⟩ = some (.slice AG gs.length cG)) := ⟨fun v hu => (hu.cell hcb (fun h => h)).trans HC5.out⟩
    have HUD := As.mk HU4.out.drew
    have HLN : As ((wd ++ [x.t]).length ≤ 1048576 * 4) := ⟨by have := HWL.out; rw [List.length_append, List.length_singleton]; omega⟩
    have HLE : As ((wd ++ [x.t]).length = wd.length + 1) := ⟨by simp⟩
    generalize hwe : wd ++ [x.t] = wd2 at *
    have HWE := As.mk hwe
    clear hwe
    clear HC5 r1
    go_wp2
    refine wp_region_T (P := Tryz.prog) (fun v => v.cell? ⟨cb, 5, none⟩ = some (.slice AG gs.length cG)) 13 (by kernel_rfl) ?_ (fun hHeld => ?_)
    · first | exact HS.out _ HU6.out | exact HS.out _ HU5.out | exact HS.out _ HUD.out
    refine zT 0 ?_
    (try simp only [Act.put, sA, sB, sC])
    refine zT 1 ?_
    (try simp only [Act.put, sA, sB, sC])
    refine zT 2 ?_
    (try simp only [Act.put, sA, sB, sC])
    refine zT 4 ?_
    (try simp only [Act.put, sA, sB, sC])
    refine zT 5 ?_
    (try simp only [Act.put, sA, sB, sC])
    refine zT 6 ?_
    (try simp only [Act.put, sA, sB, sC])
    refine zT 7 ?_
    (try simp only [Act.put, sA, sB, sC])
    refine zT 8 ?_
    (try simp only [Act.put, sA, sB, sC])
    refine zT 10 ?_
    (try simp only [Act.put, sA, sB, sC])
    refine zT 11 ?_
    (try simp only [Act.put, sA, sB, sC])
    refine oT 3 (fun K hK => ?_)
    go_simp
    (go_at_call 78; refine (HRU.out _ HUD.out).mono ?_; rintro r w5 ⟨⟨A1, c1, rfl, hrw⟩, hu⟩; have HX := As.mk hrw; have HP5 := As.mk hu; have HU5 := As.mk (HUD.out.trans hu (fun _ _ h => h)); clear hrw hu)
    refine hK.out _ _ (fun _ => by first | exact HS.out _ HU6.out | exact HS.out _ HU5.out | exact HS.out _ HUD.out) (fun hHeld => ?_)
    replace hHeld := hHeld (by decide)
    clear hK K
    (try simp only [Act.put, sA, sB, sC])
    refine oT 9 (fun K hK => ?_)
    go_simp
    (go_at_call 132; refine (begins6_calls HX.out (Rp.row_pure HG.out HU5.out) (Rp.row_pure HW.out HP5.out) HEW.out HOK.out.1 HOK.out.2 HLN.out).mono ?_; rintro r w6 ⟨rfl, hu⟩; have HU6 := As.mk (HU5.out.trans hu (fun _ _ h => h)); clear hu)
    refine hK.out _ _ (fun _ => by first | exact HS.out _ HU6.out | exact HS.out _ HU5.out | exact HS.out _ HUD.out) (fun hHeld => ?_)
    replace hHeld := hHeld (by decide)
    clear hK K
    (try simp only [Act.put, sA, sB, sC])
    refine zT 12 ?_
    (try simp only [Act.put, sA, sB, sC])
    refine oT 13 (fun K hK => ?_)
    go_simp
    refine hK.out _ _ (fun h => absurd rfl h) (fun hHeld => ?_)
    clear hK K
    (try simp only [Act.put, sA, sB, sC])
    refine wpAnyT_done (by kernel_rfl) ?_ _
    go_wp2
    go_ret
    refine ⟨?_, HU6.out⟩
    rw [← HLE.out]
    have hd : ((regBegins e gs wd2 : Int) == (wd2.length : Int)) = decide (regBegins e gs wd2 = wd2.length) := by rw [Bool.eq_iff_iff]; simp; omega
    rw [HWE.out, Bool.true_and, ← hd]
    rfl
theorem one6_calls {w : World} {cb : Nat} {F : Nat → Prop} {A : Option Addr} {c : Nat} {l : List Tok} (h : H6 w cb) (hr : tokR.row w F A l) (hb : l.length ≤ 2048) (hlc : l.length ≤ c) {k : Nat} {x : Tok} (hx : l[k]? = some x) {top : Lev} {below : List Lev} (hrun : hRun hTop [] (l.take k) = some (top, below)) :
    Calls Tryz.prog 69 #[.pointer (some ⟨cb, 0, none⟩), .slice A l.length c, .int .i64 k] w fun r w' => r = .returned (.bool (one6 l k x)) ∧ Pure w w' := by
  by_cases h2 : x.k = 2
  · exact one6_shut h hr hb hlc hx h2 hrun
  · exact one6_more h hr hb hlc hx h2 hrun
end Go.Proofs.YtofjodppljnlaaaGreatDoor
namespace Go.Proofs.YtofjodppljnlaaaGreatDoor
open Go.RowKit
set_option linter.unusedVariables false
set_option linter.unusedSimpArgs false
theorem run_next {l : List Tok} {k : Nat} {x : Tok} {top : Lev} {below : List Lev} (hx : l[k]? = some x) (hrun : hRun hTop [] (l.take k) = some (top, below)) (hf : (fcGo k below.length (l.drop k)).2 = 0) (hone : one6 l k x = true) :
    ∃ t z, hRun hTop [] (l.take (k + 1)) = some (t, z) ∧ (fcGo (k + 1) z.length (l.drop (k + 1))).2 = 0 := by
  rw [drop_cons hx] at hf
  generalize l.drop (k + 1) = r at *
  have hf' : fcGo k below.length (x :: r) = ((fcGo k below.length (x :: r)).1, 0) := by rw [← hf]
  rw [one_step hx (fc_right hf') hrun] at hone
  have hrn : ∀ (t : Lev) (z : List Lev), hRun top below [x] = some (t, z) → hRun hTop [] (l.take (k + 1)) = some (t, z) := by
    intro t z e
    rw [List.take_add_one, hx]
    unfold hRun at hrun e ⊢
    rw [ckRun_app, hrun]
    exact e
  by_cases h2 : x.k = 2
  · rw [if_pos h2] at hone
    obtain ⟨hn, hf2⟩ := fc_close hf' h2
    cases below with
    | nil => simp at hn
    | cons p q =>
      refine ⟨p, q, hrn p q ?_, ?_⟩
      · unfold hRun
        rw [ckRun_cons, if_pos h2]
        simp only
        rw [if_pos hone]
        rfl
      · have : (p :: q).length - 1 = q.length := by simp
        rw [this] at hf2
        rw [hf2]
  · rw [if_neg h2] at hone
    by_cases h1 : x.k = 1
    · obtain ⟨_, hf2⟩ := fc_open hf' h1
      refine ⟨(ruleOf houseRules x.t, []), (top.1, top.2 ++ [x.t]) :: below, hrn _ _ ?_, by rw [List.length_cons, hf2]⟩
      unfold hRun
      rw [ckRun_cons, if_neg h2, if_pos hone, if_pos h1]
      rfl
    · have hf2 := fc_else hf' h1 h2
      refine ⟨(top.1, top.2 ++ [x.t]), below, hrn _ _ ?_, by rw [hf2]⟩
      unfold hRun
      rw [ckRun_cons, if_neg h2, if_pos hone, if_neg h1]
      rfl
/-- What the loop keeps: the run so far. -/
def RunTo (l : List Tok) (k : Nat) : Prop := ∃ top below, hRun hTop [] (l.take k) = some (top, below) ∧ (fcGo k below.length (l.drop k)).2 = 0
theorem flat_le {l : List Tok} (hf : (flatCheck l).2 = 0) : l.length ≤ 2048 := by
  apply Nat.le_of_not_lt
  intro h
  unfold flatCheck at hf
  rw [if_pos (by omega)] at hf
  cases hf
theorem flat_go {l : List Tok} (hf : (flatCheck l).2 = 0) : (fcGo 0 0 l).2 = 0 := by
  have := flat_le hf
  unfold flatCheck at hf
  rw [if_neg (by omega)] at hf
  exact hf
set_option maxRecDepth 100000 in
set_option maxHeartbeats 4000000 in
theorem Check6_flat {w : World} {cb : Nat} {F : Nat → Prop} {A : Option Addr} {c : Nat} {l : List Tok} (hr : tokR.row w F A l) (hb : l.length ≤ 1048576 * 4) (hf : (flatCheck l).2 ≠ 0) :
    Calls Tryz.prog 16 #[.pointer (some ⟨cb, 0, none⟩), .slice A l.length c] w fun e w' => e = .returned (.tuple #[.int .i64 (flatCheck l).1, .int .i64 (flatCheck l).2]) ∧ Pure w w' := by
  have HCK := As.mk (Check4_calls (c := c) hr hb)
  have f1 : ((flatCheck l).2 != 0) = true := by simpa using hf
  generalize flatCheck l = fc at *
  obtain ⟨p, q⟩ := fc
  clear hr hf
  go_enter Tryz.func16, Tryz.ntmps16
  go_wp2_with (go_at_call 68; refine HCK.out.mono ?_; rintro r w1 ⟨rfl, hu⟩; have HU1 := As.mk hu; clear hu)
  exact bodyPost_ret (results_tmp2 rfl _ _ _) rfl ⟨rfl, HU1.out⟩
set_option maxRecDepth 100000 in
set_option maxHeartbeats 4000000 in
theorem Check6_main {w : World} {cb : Nat} {F : Nat → Prop} {A : Option Addr} {c : Nat} {l : List Tok} (h : H6 w cb) (hr : tokR.row w F A l) (hlc : l.length ≤ c) (hf : (flatCheck l).2 = 0) :
    Calls Tryz.prog 16 #[.pointer (some ⟨cb, 0, none⟩), .slice A l.length c] w fun e w' => e = .returned (.tuple #[.int .i64 (ck6 l 0 l).1, .int .i64 (ck6 l 0 l).2]) ∧ Pure w w' := by
  have hb := flat_le hf
  have HCK := As.mk (Check4_calls (c := c) hr (by omega))
  have HRT := As.mk (show RunTo l 0 from ⟨hTop, [], rfl, flat_go hf⟩)
  rw [hf] at HCK
  generalize (flatCheck l).1 = p at *
  have HONE := As.mk (fun W (hu : Pure w W) (k : Nat) (x : Tok) (hx : l[k]? = some x) (hrt : RunTo l k) => show Calls Tryz.prog 69 #[.pointer (some ⟨cb, 0, none⟩), .slice A l.length c, .int .i64 k] W _ from by
    obtain ⟨top, below, hrun, _⟩ := hrt
    exact one6_calls (c := c) (h.pure hu) (Rp.row_pure hr hu) hb hlc hx hrun)
  have HNX := As.mk (fun (k : Nat) (x : Tok) (hx : l[k]? = some x) (hrt : RunTo l k) (ho : one6 l k x = true) => show RunTo l (k + 1) from by
    obtain ⟨top, below, hrun, hf⟩ := hrt
    exact run_next hx hrun hf ho)
  have HWD := As.mk (fun W (hu : Pure w W) => word6_calls (c := c) (a := 0) (b := l.length) (i := -1) (Rp.row_pure hr hu) (by omega) (Nat.le_refl _) (Nat.zero_le _) (by omega))
  obtain ⟨AW, cW, AL, cL, AE, cE, AG, cG, hcb, c0, c1, c2, c3, c4, c5, hw0, _, _, hg⟩ := h.cells
  have HAC := As.mk (fun W (hu : Pure w W) (Aw : Option Addr) (cw : Nat) (G : Nat → Prop) (hwl : (wordL l (-1) l.length).length ≤ 1048576 * 4) (hw : intR.row W G Aw (wordL l (-1) l.length)) => accepts6_calls (c := cW) (d := cG) (cw := cw) (Rp.row_pure hw0 hu) (Rp.row_pure hg hu) hw (by have := rule6_wt l (-1); exact this) house_ok.gl house_ok.gt hwl)
  have HE := As.mk (show (ruleOf houseRules 0).2 = houseE0 from rfl)
  have HS : As (∀ v, Pure w v → v.cell? ⟨cb, 0, none⟩ = some (.int .i64 houseE0.k) ∧ v.cell? ⟨cb, 1, none⟩ = some (.string houseE0.name) ∧ v.cell? ⟨cb, 2, none⟩ = some (.slice AW houseE0.l.length cW) ∧ v.cell? ⟨cb, 5, none⟩ = some (.slice AG houseGroups.length cG)) := ⟨fun v hu => ⟨(hu.cell hcb (fun h => h)).trans c0, (hu.cell hcb (fun h => h)).trans c1, (hu.cell hcb (fun h => h)).trans c2, (hu.cell hcb (fun h => h)).trans c5⟩⟩
  have HCK6 := As.mk (show ck6 l 0 (l.drop 0) = ck6 l 0 l from rfl)
  have HC6 := As.mk (fun k x (hx : l[k]? = some x) => show ck6 l k (l.drop k) = if one6 l k x = true then ck6 l (k + 1) (l.drop (k + 1)) else ((k : Int), 9) by rw [drop_cons hx, ck6])
  have HEND := As.mk (show ck6 l l.length (l.drop l.length) = ((l.length : Int), if regAccepts houseE0 houseGroups (wordL l (-1) l.length) = true then (0 : Int) else 9) by rw [List.drop_length, ck6, HE.out])
  generalize ck6 l 0 l = res at *
  generalize houseGroups = gs at *
  generalize houseE0 = e0 at *
  generalize wordL l (-1) l.length = wd at *
  obtain ⟨k0, nm, l0⟩ := e0
  unfold Ex.val at *
  clear h hr hf hw0 hg c0 c1 c2 c3 c4 c5 HE
  go_enter Tryz.func16, Tryz.ntmps16
  go_wp2_with (go_at_call 68; refine HCK.out.mono ?_; rintro r w1 ⟨rfl, hu⟩; have HU1 := As.mk hu; clear hu)
  go_loopg [8] l.length (fun gg i wr => ∃ k : Nat, k + gg = l.length ∧ i = .int .i64 k ∧ As (Pure w wr) ∧ As (RunTo l k) ∧ As (ck6 l k (l.drop k) = res))
  case atStart => exact ⟨0, by omega, rfl, HU1, HRT, HCK6⟩
  case round =>
    clear HRT HCK6 HU1
    obtain ⟨k, hk, rfl, HP, HRT, HRES⟩ := hrel
    by_cases hlt : k < l.length
    · obtain ⟨x, hx⟩ : ∃ x, l[k]? = some x := ⟨_, List.getElem?_eq_getElem hlt⟩
      obtain ⟨g1, rfl⟩ : ∃ m, gk = m + 1 := ⟨gk - 1, by omega⟩
      have HO := As.mk (HONE.out _ HP.out k x hx HRT.out)
      have HN := As.mk (HNX.out k x hx HRT.out)
      have HR2 := HRES.out
      rw [HC6.out k x hx] at HR2
      have HK := As.mk hk
      clear hx hk HRES
      generalize one6 l k x = ob at *
      cases ob with
      | false =>
        have HR3 := As.mk HR2
        clear HR2
        go_wp2_with (go_at_call 69; refine HO.out.mono ?_; rintro r w2 ⟨rfl, hu⟩; have HU2 := As.mk (HP.out.trans hu (fun _ _ h => h)); clear hu)
        exact bodyPost_ret (results_tmp2 rfl _ _ _) rfl ⟨by rw [← HR3.out]; rfl, HU2.out⟩
      | true =>
        have HR3 := As.mk (show ck6 l (k + 1) (l.drop (k + 1)) = res from HR2)
        clear HR2
        go_wp2_with (go_at_call 69; refine HO.out.mono ?_; rintro r w2 ⟨rfl, hu⟩; have HU2 := As.mk (HP.out.trans hu (fun _ _ h => h)); clear hu)
        go_roundg g1
        case measure => omega
        case rel => exact ⟨k + 1, by have := HK.out; omega, by go_num, HU2, ⟨HN.out trivial⟩, HR3⟩
    · obtain rfl : k = l.length := by omega
      have HR3 := As.mk (HEND.out.symm.trans HRES.out)
      have HUD := As.mk HP.out.drew
      clear HRES HRT HC6 HEND HONE HNX
      cases hac : regAccepts (.mk k0 nm l0) gs wd <;> rw [hac] at HAC HR3
      all_goals
        go_wp2
        refine wp_region_held_drew (S := (fun v => v.cell? ⟨cb, 0, none⟩ = some (.int .i64 (Ex.mk k0 nm l0).k) ∧ v.cell? ⟨cb, 1, none⟩ = some (.string (Ex.mk k0 nm l0).name) ∧ v.cell? ⟨cb, 2, none⟩ = some (.slice AW (Ex.mk k0 nm l0).l.length cW) ∧ v.cell? ⟨cb, 5, none⟩ = some (.slice AG gs.length cG))) (by kernel_rfl) ?_ (fun hHeld => ?_)
        · first | exact HS.out _ HU4.out | exact HS.out _ HU3.out | exact HS.out _ HUD.out
        refine zH 0 ?_
        (try simp only [Act.put, sA, sB, sC])
        refine zH 1 ?_
        (try simp only [Act.put, sA, sB, sC])
        refine zH 2 ?_
        (try simp only [Act.put, sA, sB, sC])
        refine zH 3 ?_
        (try simp only [Act.put, sA, sB, sC])
        refine zH 4 ?_
        (try simp only [Act.put, sA, sB, sC])
        refine zH 5 ?_
        (try simp only [Act.put, sA, sB, sC])
        refine zH 6 ?_
        (try simp only [Act.put, sA, sB, sC])
        refine zH 7 ?_
        (try simp only [Act.put, sA, sB, sC])
        refine zH 8 ?_
        (try simp only [Act.put, sA, sB, sC])
        refine zH 9 ?_
        (try simp only [Act.put, sA, sB, sC])
        refine zH 10 ?_
        (try simp only [Act.put, sA, sB, sC])
        refine wpAnyH_ready (rs := [11]) (by kernel_rfl) (by simp) (AllReadyH.cons (o := { dst := (some 41), op := (Go.Op.call { callee := (Go.Callee.value (Go.Operand.func 71)), args := #[(Go.Operand.tmp 38), (Go.Operand.const (Go.Value.int Go.IntKind.i64 (-1))), (Go.Operand.tmp 40)], argTypes := #[22, 3, 3] }), type := 83, pos := "ref.go:177", after := #[{ on := 8, ground := Go.Ground.data }, { on := 10, ground := Go.Ground.data }], guard := none }) rfl (fun K hK => ?_) AllReadyH.nil)
        go_simp
        first | (go_at_call 70; refine (HAC.out _ HU3.out _ _ _ (by have := HWL.out; omega) HRW.out).mono ?_; rintro r w4 ⟨rfl, hu⟩; have HU4 := As.mk (HU3.out.trans hu (fun _ _ h => h)); clear hu) | (go_at_call 71; refine (HWD.out _ HUD.out).mono ?_; rintro r w3 ⟨v, rfl, ho, hwl, hu⟩; have HU3 := As.mk (HUD.out.trans hu (fun _ _ h => h)); obtain ⟨Av, cv, rfl, _, hrow⟩ := Rp.own_slice ho; have HRW := As.mk hrow; have HWL := As.mk hwl; clear ho hwl hu hrow)
        refine hK.out _ _ (by first | exact HS.out _ HU4.out | exact HS.out _ HU3.out | exact HS.out _ HUD.out) (fun hHeld => ?_)
        clear hK K
        (try simp only [Act.put, sA, sB, sC])
        refine wpAnyH_ready (rs := [12]) (by kernel_rfl) (by simp) (AllReadyH.cons (o := { dst := (some 42), op := (Go.Op.call { callee := (Go.Callee.value (Go.Operand.func 70)), args := #[(Go.Operand.tmp 33), (Go.Operand.tmp 37), (Go.Operand.tmp 41)], argTypes := #[92, 86, 83] }), type := 4, pos := "ref.go:177", after := #[{ on := 3, ground := Go.Ground.data }, { on := 7, ground := Go.Ground.data }, { on := 11, ground := Go.Ground.data }, { on := 11, ground := Go.Ground.chain }], guard := none }) rfl (fun K hK => ?_) AllReadyH.nil)
        go_simp
        first | (go_at_call 70; refine (HAC.out _ HU3.out _ _ _ (by have := HWL.out; omega) HRW.out).mono ?_; rintro r w4 ⟨rfl, hu⟩; have HU4 := As.mk (HU3.out.trans hu (fun _ _ h => h)); clear hu) | (go_at_call 71; refine (HWD.out _ HUD.out).mono ?_; rintro r w3 ⟨v, rfl, ho, hwl, hu⟩; have HU3 := As.mk (HUD.out.trans hu (fun _ _ h => h)); obtain ⟨Av, cv, rfl, _, hrow⟩ := Rp.own_slice ho; have HRW := As.mk hrow; have HWL := As.mk hwl; clear ho hwl hu hrow)
        refine hK.out _ _ (by first | exact HS.out _ HU4.out | exact HS.out _ HU3.out | exact HS.out _ HUD.out) (fun hHeld => ?_)
        clear hK K
        (try simp only [Act.put, sA, sB, sC])
        refine zH 13 ?_
        (try simp only [Act.put, sA, sB, sC])
        refine wpAnyH_done (by kernel_rfl) ?_ _
        go_wp2
        exact bodyPost_ret (results_tmp2 rfl _ _ _) rfl ⟨by rw [← HR3.out]; rfl, HU4.out⟩
theorem Check6_calls {w : World} {cb : Nat} {F : Nat → Prop} {A : Option Addr} {c : Nat} {l : List Tok} (h : H6 w cb) (hr : tokR.row w F A l) (hlc : l.length ≤ c) (hb : l.length ≤ 1048576 * 4) :
    Calls Tryz.prog 16 #[.pointer (some ⟨cb, 0, none⟩), .slice A l.length c] w fun e w' => e = .returned (.tuple #[.int .i64 (houseCheck l).1, .int .i64 (houseCheck l).2]) ∧ Pure w w' := by
  rw [← check6_eq]
  unfold check6
  by_cases hf : (flatCheck l).2 = 0
  · rw [if_pos hf]
    exact Check6_main h hr hlc hf
  · rw [if_neg hf]
    exact Check6_flat hr hb hf
end Go.Proofs.YtofjodppljnlaaaGreatDoor
namespace Go.Proofs.YtofjodppljnlaaaGreatDoor
open Go.RowKit
set_option linter.unusedVariables false
set_option linter.unusedSimpArgs false
theorem fold_wd : ∀ (r : List Tok) (d : Int) (w : List Int), r.foldl wdStep (d, w) = ((r.foldl wdStep (d, [])).1, w ++ (r.foldl wdStep (d, [])).2) := by
  intro r
  induction r with
  | nil => intro d w; simp
  | cons x r ih =>
    intro d w
    have h1 : ∀ w : List Int, wdStep (d, w) x = ((wdStep (d, []) x).1, w ++ (wdStep (d, []) x).2) := by
      intro w
      unfold wdStep
      by_cases h : d = 0 ∧ x.k ≠ 2
      · simp [h]
      · simp only [if_neg h, List.append_nil]
    rw [List.foldl_cons, List.foldl_cons, h1 w]
    generalize wdStep (d, []) x = p
    obtain ⟨D, W⟩ := p
    rw [ih D (w ++ W), ih D W, List.append_assoc]
theorem wd_split {l : List Tok} {i : Int} {n e : Nat} {w : List Int} (hi : i < n) (h1 : -1 ≤ i) (hne : n ≤ e) (hn : n ≤ l.length) (h : wdGo l i n = (0, w)) : wdGo l i e = ((wdGo l ((n : Int) - 1) e).1, w ++ (wdGo l ((n : Int) - 1) e).2) := by
  have hsplit : (l.take e).drop (i + 1).toNat = (l.take n).drop (i + 1).toNat ++ (l.take e).drop n := by
    have e1 : l.take e = l.take n ++ (l.take e).drop n := by
      have := (List.take_append_drop n (l.take e)).symm
      rwa [List.take_take, Nat.min_eq_left hne] at this
    conv => lhs; rw [e1]
    rw [List.drop_append_of_le_length (by rw [List.length_take]; omega)]
  unfold wdGo at h ⊢
  rw [Int.toNat_natCast] at h ⊢
  rw [hsplit, List.foldl_append, h, fold_wd, show ((n : Int) - 1 + 1).toNat = n by omega]
theorem dpt_part : ∀ (L : List Tok) (n d j : Nat), dpt n L = some 0 → 1 ≤ d → d ≤ n → ∃ k, ptGo j (d : Int) L = some k := by
  intro L
  induction L with
  | nil =>
    intro n d j h h1 h2
    simp only [dpt, Option.some.injEq] at h
    omega
  | cons x r ih =>
    intro n d j h h1 h2
    rw [dpt] at h
    rw [ptGo]
    by_cases hk : x.k = 1
    · rw [if_pos hk] at h ⊢
      exact ih (n + 1) (d + 1) (j + 1) h (by omega) (by omega)
    · rw [if_neg hk] at h ⊢
      by_cases hk2 : x.k = 2
      · rw [if_pos hk2] at h ⊢
        rw [if_neg (by omega)] at h
        by_cases hd : d = 1
        · exact ⟨j, by rw [if_pos (by omega)]⟩
        · rw [if_neg (by omega), show (d : Int) - 1 = ((d - 1 : Nat) : Int) by omega]
          exact ih (n - 1) (d - 1) (j + 1) h (by omega) (by omega)
      · rw [if_neg hk2] at h ⊢
        exact ih n d (j + 1) h h1 h2
theorem dpt6 {l : List Tok} (ok : (houseCheck l).2 = 0) : dpt 0 l = some 0 := dpt_fc l 0 0 ((house_iff l).1 ok).2.1
theorem dpt_mono : ∀ (B R : List Tok) (c : Tok), c.k = 2 → dpt 0 B = some 0 → dpt 0 (B ++ c :: R) = none := by
  intro B R c hc h
  rw [dpt_app, h]
  show dpt 0 (c :: R) = none
  rw [dpt, if_neg (by omega), if_pos hc, if_pos rfl]
/-- The partner of what is open at a place: behind it; there that is open again. -/
theorem part_at {l : List Tok} (ok : (houseCheck l).2 = 0) {n j : Nat} (hn : n ≤ l.length) (ha : aroundL l n = (j : Int)) : ∃ e : Nat, partL l j = (e : Int) ∧ j < n ∧ n ≤ e ∧ e < l.length ∧ aroundL l e = (j : Int) := by
  have hd := dpt6 ok
  have hne : stackL l n ≠ [] := by
    intro h
    unfold aroundL at ha
    rw [h] at ha
    simp at ha
  obtain ⟨s, p, hs⟩ : ∃ s p, stackL l n = s ++ [p] := ⟨_, _, (List.dropLast_concat_getLast hne).symm⟩
  rw [stack_at6 hn] at hs
  obtain ⟨i, o, B, rfl, hin, ho, h1, htk, hB, _⟩ := around_piece hd n hn s p hs
  have hij : i = j := by
    unfold aroundL at ha
    rw [stack_at6 hn, hs] at ha
    simp at ha
    omega
  subst hij
  have hil : i < l.length := (List.getElem?_eq_some_iff.1 ho).1
  -- the depth at i
  have hsplit : l = l.take i ++ (o :: l.drop (i + 1)) := by rw [← drop_cons ho, List.take_append_drop]
  have hd2 := hd
  rw [hsplit, dpt_app] at hd2
  obtain ⟨m, hm1, hm2⟩ := Option.bind_eq_some_iff.1 hd2
  rw [dpt, if_pos h1] at hm2
  obtain ⟨k, hk⟩ := dpt_part (l.drop (i + 1)) (m + 1) 1 1 hm2 (Nat.le_refl _) (by omega)
  have hpt : ptGo 0 0 (l.drop i) = some k := by
    rw [drop_cons ho, ptGo, if_pos h1]
    exact hk
  have hpart : partL l i = (i : Int) + k := by unfold partL; rw [hpt]
  obtain ⟨B', c, R, hL, hc, hB', hk'⟩ := pt_split (l.drop (i + 1)) 0 1 k (by simpa using hk)
  have hlenL : (l.drop (i + 1)).length = l.length - (i + 1) := List.length_drop
  have hlen2 : (l.drop (i + 1)).length = B'.length + (R.length + 1) := by rw [hL]; simp
  -- B is what stands up to n
  have hBt : (l.drop (i + 1)).take (n - (i + 1)) = B := by
    have e1 : l.take n = l.take i ++ o :: (l.drop (i + 1)).take (n - (i + 1)) := by
      have : n = i + 1 + (n - (i + 1)) := by omega
      conv => lhs; rw [this]
      rw [List.take_add, List.take_add_one, ho]
      simp
    rw [htk] at e1
    have := List.append_cancel_left e1
    injection this with _ h2
    exact h2.symm
  have hle : n - (i + 1) ≤ B'.length := by
    apply Nat.le_of_not_lt
    intro hlt
    have hB2 : B = B' ++ c :: (R.take (n - (i + 1) - B'.length - 1)) := by
      rw [← hBt, hL, List.take_append, List.take_of_length_le (by omega)]
      congr 1
      have : n - (i + 1) - B'.length = (n - (i + 1) - B'.length - 1) + 1 := by omega
      rw [this, List.take_succ_cons]
      simp
    rw [hB2, dpt_mono B' _ c hc hB'] at hB
    cases hB
  refine ⟨i + 1 + B'.length, by rw [hpart, hk']; omega, hin, by omega, by omega, ?_⟩
  refine (around_rel ho h1 (by omega) (n := 0) ?_).2 rfl
  rw [hL, List.take_left' rfl]
  exact hB'
def end6 (l : List Tok) (i : Int) : Int := if i < 0 then (l.length : Int) else partL l i.toNat
def may6 (l : List Tok) (n t : Int) : Bool := regAccepts (rule6 l (aroundL l n)).2 houseGroups (wordL l (aroundL l n) n ++ [t] ++ wordL l (n - 1) (end6 l (aroundL l n)))
/-- The run up to a place: its top's rule and words. -/
theorem lv_at {l : List Tok} (ok : (houseCheck l).2 = 0) {n : Nat} (hn : n ≤ l.length) : ∃ top below, Lv l n 0 (stackL l n) top below ∧ Wd top := by
  obtain ⟨top, below, h1, _, hR, _⟩ := at_level ok hn
  exact ⟨top, below, run_lv hn h1, hR.wd.2.1⟩
theorem lv_word {l : List Tok} (ok : (houseCheck l).2 = 0) {n : Nat} (hn : n ≤ l.length) : ∃ top : Lev, Wd top ∧ wdGo l (aroundL l n) n = (0, top.2) ∧ aroundL l n < n ∧ -1 ≤ aroundL l n ∧ top.1 = rule6 l (aroundL l n) := by
  obtain ⟨top, below, HL, hw⟩ := lv_at ok hn
  refine ⟨top, hw, ?_⟩
  unfold aroundL
  rcases HL.inv with ⟨h1, h2, h3⟩ | ⟨j, yt, y, h1, hy, hy1, hyt, hyt1, hR, hj, h3⟩
  · rw [h1]
    exact ⟨h3, by omega, by omega, by rw [h2]; unfold rule6; rw [if_pos (by decide)]⟩
  · rw [h1]
    refine ⟨h3, by omega, by omega, ?_⟩
    unfold rule6 tyAt
    rw [if_neg (by omega), Int.toNat_natCast, hy]
    show _ = ruleOf houseRules y.t
    rw [hyt, rule_get hR]
theorem around_last {l : List Tok} (ok : (houseCheck l).2 = 0) : aroundL l (l.length : Int) = -1 := by
  obtain ⟨top, below, h1, h2, _, hM⟩ := at_level ok (Nat.le_refl l.length)
  have hb : below = [] := by
    obtain ⟨t, h3, _⟩ := h2
    rw [List.drop_length] at h3
    simp only [hRun, ckRun, Option.some.injEq, Prod.mk.injEq] at h3
    exact h3.2
  subst hb
  unfold aroundL
  generalize stackL l (l.length : Int) = s at hM
  cases hM
  rfl
theorem end_at {l : List Tok} (ok : (houseCheck l).2 = 0) {n : Nat} (hn : n ≤ l.length) : ∃ e : Nat, end6 l (aroundL l n) = (e : Int) ∧ n ≤ e ∧ e ≤ l.length ∧ aroundL l e = aroundL l n := by
  unfold end6
  obtain ⟨top, hw, hwd, h1, h2, h3⟩ := lv_word ok hn
  by_cases ha : aroundL l n < 0
  · have ha1 : aroundL l n = -1 := by omega
    rw [if_pos ha]
    exact ⟨l.length, rfl, hn, Nat.le_refl _, by rw [around_last ok, ha1]⟩
  · obtain ⟨j, hj⟩ : ∃ j : Nat, aroundL l n = (j : Int) := ⟨(aroundL l n).toNat, by omega⟩
    rw [if_neg ha, hj, Int.toNat_natCast]
    obtain ⟨e, he, _, hle, hl2, hae⟩ := part_at ok hn hj
    exact ⟨e, he, hle, by omega, hae⟩
theorem rule_sig (l : List Tok) (n : Int) : Sig houseGroups (rule6 l n).2 := by
  unfold rule6
  split
  · exact house_sig 0
  · exact house_sig _
/-- What May of the reference answers at a place of a document. -/
theorem may6_iff {l : List Tok} (ok : (houseCheck l).2 = 0) {n : Nat} (hn : n ≤ l.length) (t : Int) : may6 l n t = true ↔ t ∈ tyR (rule6 l (aroundL l n)) := by
  obtain ⟨top, hw, hwd, h1, h2, h3⟩ := lv_word ok hn
  obtain ⟨e, he, hne, hel, hae⟩ := end_at ok hn
  obtain ⟨top2, hw2, hwd2, _, _, h4⟩ := lv_word ok hel
  rw [hae] at hwd2 h4
  have hsp := wd_split h1 h2 hne hn hwd
  rw [hwd2] at hsp
  have hmem : ∀ u ∈ top.2 ++ (wdGo l ((n : Int) - 1) e).2, u ∈ tyR (rule6 l (aroundL l n)) := by
    intro u hu
    have : top2.2 = top.2 ++ (wdGo l ((n : Int) - 1) e).2 := by injection hsp
    rw [← this] at hu
    rw [← h4]
    exact hw2.2 u hu
  unfold may6 wordL
  rw [he, hwd]
  rw [(rule_sig l (aroundL l n)).acc]
  constructor
  · exact fun h => h.2 t (by simp)
  · intro h
    refine ⟨fun hz => by simp at hz, fun u hu => ?_⟩
    rcases List.mem_append.1 hu with hu | hu
    · rcases List.mem_append.1 hu with hu | hu
      · exact hmem u (by simp [hu])
      · rw [List.mem_singleton.1 hu]; exact h
    · exact hmem u (by simp [hu])
theorem atp_rule {l : List Tok} {n : Nat} {R : Spec × Ex} (h : AtP l n R) : R = rule6 l (aroundL l n) := by
  unfold rule6
  rcases h.whole with ⟨ha, h0⟩ | ⟨j, yt, y, ha, hy, hy1, hyt, hyt1, hR⟩
  · rw [ha, if_pos (by decide)]
    exact (rule_get (yt := 0) h0).symm
  · rw [ha, if_neg (by omega)]
    unfold tyAt
    rw [Int.toNat_natCast, hy]
    show R = ruleOf houseRules y.t
    rw [hyt, rule_get hR]
/-- Both answer the same. -/
theorem may_same {l : List Tok} (ok : (houseCheck l).2 = 0) {n : Nat} (hn : n ≤ l.length) {R : Spec × Ex} (h : AtP l n R) (t : Int) : regAccepts R.2 houseGroups (mayGo l n t (kidsL l (aroundL l n)) false) = may6 l n t := by
  rw [Bool.eq_iff_iff, may6_iff ok hn, ← atp_rule h, h.wd.sig.acc]
  constructor
  · exact fun ⟨_, h1⟩ => h1 t (mayGo_in l n t _)
  · intro h0
    refine ⟨fun e => ?_, fun u hu => ?_⟩
    · have := mayGo_in l n t (kidsL l (aroundL l n))
      rw [e] at this
      cases this
    · rcases mayGo_mem l n t _ _ u hu with rfl | ⟨p, hp, rfl⟩
      · exact h0
      · obtain ⟨i, x, rfl, hx, hxt⟩ := h.kids p hp
        unfold tyAt
        rw [Int.toNat_natCast, hx]
        exact hxt
end Go.Proofs.YtofjodppljnlaaaGreatDoor
namespace Go.Proofs.YtofjodppljnlaaaGreatDoor
open Go.RowKit
set_option linter.unusedVariables false
set_option linter.unusedSimpArgs false
theorem step_store_row {P : Program} {ops : Array Oper} {o : Oper} {a : Act} {w : World} {K : Act → World → Prop} {Q : Exit → Act → World → Prop} {E : Prop} (hgd : o.guard = none) (ty : TypeId) (x y : Operand) (ho : o.op = .store ty x y)
    (g : Nat) (cells : Array Value) (hx : a.eval x = .pointer (some ⟨g, 0, none⟩)) (hy : a.eval y = .agg cells) (t : TypeId) (old : Array Value) (hg : w.heap[g]? = some (.cells old t (0, 0))) (hi : (P.info? ty).map (·.size) = some cells.size)
    (hold : old.size = cells.size) (h1 : cells.all (·.oneCell') = true) (h : K (a.put o.dst undef) (w.setRow g cells)) : if Region.wanted o (yielded ops a.tmps) = true then Oper.wp P o a w K Q else E := by
  rw [if_pos (by simp [Region.wanted, hgd])]
  exact wp_store_row ty x y ho g cells hx hy t old hg hi hold h1 h
theorem setRow_upd (w : World) (g : Nat) (cells : Array Value) : Upd (fun q => q = g) w (w.setRow g cells) := ⟨rfl, rfl, rfl, by simp [World.setRow], fun k _ hn => setRow_other w g k _ hn⟩
theorem rule_row {w : World} {cb : Nat} (h : SchR w cb houseRules houseGroups) : ∃ b0 o0 cL AG cG, w.cell? ⟨cb, 0, none⟩ = some (.slice (some ⟨b0, o0, none⟩) 8 cL) ∧ w.cell? ⟨cb, 1, none⟩ = some (.slice AG houseGroups.length cG) ∧ cb < w.heap.size ∧ 8 ≤ cL ∧ b0 < w.heap.size ∧ ruleR.row w (fun _ => True) (some ⟨b0, o0, none⟩) houseRules ∧ grpR.row w (fun _ => True) AG houseGroups := by
  obtain ⟨AL, cL, AG, cG, p0, p1, hcb, hle, hrow, hg⟩ := h.cells
  rw [house_len] at p0 hle
  obtain ⟨y, hy⟩ : ∃ y, houseRules[0]? = some y := ⟨_, List.getElem?_eq_getElem (by rw [house_len]; decide)⟩
  obtain ⟨x0, e0⟩ := y
  obtain ⟨b0, o0, A1, c1, rfl, _, hb0, _⟩ := rule_at hrow hy
  exact ⟨b0, o0, cL, AG, cG, p0, p1, hcb, hle, hb0, hrow, hg⟩
set_option maxRecDepth 100000 in
set_option maxHeartbeats 4000000 in
theorem May_whole {w : World} {cb : Nat} {F : Nat → Prop} {A : Option Addr} {c : Nat} {l : List Tok} {n : Nat} {t : Int} {R : Spec × Ex} (h : SchR w cb houseRules houseGroups) (hr : tokR.row w F A l) (hb : l.length ≤ 2048) (hlc : l.length ≤ c) (ok : (houseCheck l).2 = 0) (hn : n ≤ l.length) (hP : AtP l n R) (hw : aroundL l n = -1 ∧ houseRules[0]? = some R) :
    Calls Tryz.prog 19 #[.pointer (some ⟨cb, 0, none⟩), .slice A l.length c, .int .i64 n, .int .i64 t] w fun r w' => r = .returned (.bool (regAccepts R.2 houseGroups (mayGo l n t (kidsL l (aroundL l n)) false))) ∧ Pure w w' := by
  have HS := As.mk h
  have HR := As.mk hr
  have HKD0 := As.mk hP.kids
  have HCK := As.mk (house_check (c := c) h hr (by omega))
  rw [ok] at HCK
  have HAR := As.mk (fun (W : World) (hu : Pure w W) => around_calls (c := c) (at' := (n : Int)) (Rp.row_pure hr hu) (by omega) hlc)
  have ha : aroundL l n = -1 := hw.1
  have HKI := As.mk (fun (W : World) (hu : Pure w W) => Kids_whole (c := c) (Rp.row_pure hr hu) (by omega))
  obtain ⟨x0, e0⟩ := R
  have hy0 := hw.2
  rw [ha] at HAR HKD0
  rw [ha]
  have HKL := As.mk (show (kidsL l (-1)).length ≤ 2048 by have := kidsL_len l (-1); omega)
  obtain ⟨b0, o0, cL, AG, cG, p0, p1, hcb, hle, hb0, hrow, hgrow⟩ := rule_row h
  have HG := As.mk hgrow
  obtain ⟨b0', o0', A1, c1, hA, _, _, d0, d1, d2, d3, d4, d5, d6, d7, d8, d9, hl1, hx1⟩ := rule_at hrow hy0
  simp only [Option.some.injEq, Addr.mk.injEq] at hA
  obtain ⟨rfl, rfl, _⟩ := hA
  simp only [Nat.zero_mul, Nat.add_zero] at d0 d1 d2 d3 d4 d5 d6 d7 d8 d9
  have HMEM := As.mk (List.mem_of_getElem? hy0)
  have HXR := As.mk hx1
  have HBT := As.mk (fun (bx : Nat) (_ : bx = bx) => trivial)
  have t1 : decide ((n : Int) < 0) = false := by simp
  have t2 : decide ((n : Int) > (l.length : Int)) = false := by simp; omega
  have t3 : decide ((l.length : Int) < (n : Int)) = false := by simp; omega
  have t4 : decide (l.length < n) = false := by simp; omega
  clear h hr ok hP hrow hgrow hx1 hw ha
  go_enter Tryz.func19, Tryz.ntmps19
  go_wp2_with (first | (go_at_call 72; refine (HAR.out w1 HU1.out).mono ?_; rintro r w2 ⟨rfl, hu⟩; have HU2 := As.mk (HU1.out.trans hu (fun _ _ h => h)); obtain ⟨oc, of⟩ := Pure.olds HU2.out; have hz2 := HU2.out.size; clear hu) | (go_at_call 15; refine HCK.out.mono ?_; rintro r w1 ⟨rfl, hu⟩; have HU1 := As.mk hu; clear hu))
  obtain ⟨W3, hW3⟩ : ∃ W3, W3 = w2.alloc (.cells #[.string x0.name, .string x0.expr, .bool x0.leaf, .int .i64 x0.marks, .int .i64 x0.least, .int .i64 x0.most, .bool x0.lines, .int .i64 e0.k, .string e0.name, .slice A1 e0.l.length c1] 94) := ⟨_, rfl⟩
  have HU3 := As.mk (show Pure w W3 from hW3 ▸ HU2.out.alloc _)
  have hW3b : W3.heap[w2.heap.size]? = some (.cells #[.string x0.name, .string x0.expr, .bool x0.leaf, .int .i64 x0.marks, .int .i64 x0.least, .int .i64 x0.most, .bool x0.lines, .int .i64 e0.k, .string e0.name, .slice A1 e0.l.length c1] 94 (0, 0)) := hW3 ▸ heap_alloc_new w2 _
  have HW3B := As.mk hW3b
  have hz3 : w2.heap.size < W3.heap.size := (Array.getElem?_eq_some_iff.1 hW3b).1
  have HZ := As.mk (And.intro hz2 hz3)
  rw [← hW3]
  clear hW3 hW3b d0 d1 d2 d3 d4 d5 d6 d7 d8 d9
  obtain ⟨W5, hW5⟩ : ∃ W5, W5 = W3 := ⟨_, rfl⟩
  have HU5 := As.mk (show Pure w W5 from hW5 ▸ HU3.out)
  have HB5 := As.mk (show W5.heap[w2.heap.size]? = some (.cells #[.string x0.name, .string x0.expr, .bool x0.leaf, .int .i64 x0.marks, .int .i64 x0.least, .int .i64 x0.most, .bool x0.lines, .int .i64 e0.k, .string e0.name, .slice A1 e0.l.length c1] 94 (0, 0)) from hW5 ▸ HW3B.out)
  rw [← hW5]
  clear hW5
  go_wp2_with (go_at_call 76; refine (HKI.out W5 HU5.out).mono ?_; rintro r w4 ⟨v4, rfl, ho, hu⟩; have HO4 := As.mk ho; have HP4 := As.mk hu; have HU4 := As.mk (HU5.out.trans hu (fun _ _ h => h)); obtain ⟨A4, c4, rfl, hl4, hr4⟩ := Rp.own_slice ho; have HR4 := As.mk hr4; clear hu ho hr4; apply As.out)
  refine ⟨?_⟩
  have HM := As.mk (show (x0, e0) ∈ houseRules from HMEM.out)
  have HB4 := As.mk ((HP4.out.block w2.heap.size (Array.getElem?_eq_some_iff.1 HB5.out).1 (fun h => h)).trans HB5.out)
  have HCEL : As (∀ V, Pure w4 V → V.cell? ⟨w2.heap.size, 7, none⟩ = some (.int .i64 e0.k) ∧ V.cell? ⟨w2.heap.size, 8, none⟩ = some (.string e0.name) ∧ V.cell? ⟨w2.heap.size, 9, none⟩ = some (.slice A1 e0.l.length c1) ∧ V.cell? ⟨cb, 1, none⟩ = some (.slice AG houseGroups.length cG)) := ⟨fun V hu => by
    have hb := (hu.block w2.heap.size (Array.getElem?_eq_some_iff.1 HB4.out).1 (fun h => h)).trans HB4.out
    refine ⟨?_, ?_, ?_, ((HU4.out.trans hu (fun _ _ h => h)).cell hcb (fun h => h)).trans p1⟩ <;> (unfold World.cell?; simp only [hb]; rfl)⟩
  have HACC := As.mk (fun (V : World) (hu : Pure w V) (Aw : Option Addr) (cw : Nat) (wd : List Int) (Fw : Nat → Prop) (hw : intRS.row V Fw Aw wd) (hwl : wd.length ≤ 1048576) => acc_calls (c := c1) (d := cG) (cw := cw) (SchR.made house_ok HG.out hu HM.out (Rp.row_move (fun k hk hl => ⟨hl, Nat.lt_of_lt_of_le hl hu.size, hu.block k hl (fun h => h)⟩) HXR.out)) hw (by omega))
  have hkl4 := HKL.out
  generalize hks : kidsL l (-1 : Int) = ks at *
  have HKS := As.mk hks
  clear hks HKI HAR HCK HB5 HW3B HP4 HU3 HU2 HU1
  go_wp2
  go_loopg [13, 14, 61] ks.length (fun gg vv pv kv wr => ∃ (k : Nat) (put : Bool), k + gg = ks.length ∧ kv = .int .i64 k ∧ pv = .bool put ∧ As (∃ word : List Int, intRS.own 3 wr (fun q => w4.heap.size ≤ q) vv word ∧ word ++ mayGo l n t (ks.drop k) put = mayGo l n t ks false ∧ word.length ≤ 2 * k ∧ Pure w4 wr))
  case atStart => exact ⟨0, false, by omega, rfl, rfl, ⟨[], Rp.own_nil _ _ _ _, rfl, by simp, Upd.refl _ _⟩⟩
  case round =>
    obtain ⟨k, put, hk, rfl, rfl, HC⟩ := hrel
    obtain ⟨word, hown, hgo, hwl, hp⟩ := HC.out
    have HO := As.mk hown
    have HP := As.mk hp
    have HWL := As.mk hwl
    by_cases hlt : k < ks.length
    · obtain ⟨p, hp'⟩ : ∃ p, ks[k]? = some p := ⟨_, List.getElem?_eq_getElem hlt⟩
      obtain ⟨i, x, rfl, hx, _⟩ := HKD0.out p (List.mem_of_getElem? hp')
      obtain ⟨kb, ko, kcs, hA4, _, hkb, hkr, hkc⟩ := Rp.row_at (Rp.row_pure HR4.out HP.out) hp'
      have hkr2 : kcs = [.int .i64 (i : Int)] := hkr
      subst hkr2
      have f0 := hkc 0 _ rfl
      rw [show intRS.sz = 1 from rfl, Nat.mul_one, Nat.add_zero] at f0
      subst hA4
      obtain ⟨bx, ox, rfl, _, hbx0, x0', x1', x2', x3'⟩ := tok_at HR.out hx
      have HUW := As.mk (HU4.out.trans HP.out (fun _ _ h => h))
      replace x1' := (HUW.out.cell hbx0 (fun h => h)).trans x1'
      have hbx : bx < wr.heap.size := Nat.lt_of_lt_of_le hbx0 HUW.out.size
      have HBX := As.mk hbx0
      have hil : i < l.length := (List.getElem?_eq_some_iff.1 hx).1
      have htx : tyAt l (i : Int) = x.t := by unfold tyAt; rw [Int.toNat_natCast, hx]; rfl
      obtain ⟨g1, rfl⟩ : ∃ m, gk = m + 1 := ⟨gk - 1, by omega⟩
      rw [drop_cons hp', mayGo, htx] at hgo
      have HK := As.mk hk
      have hwk : IntKind.i64.wrap ((k : Int) + 1) = (k : Int) + 1 := IntWalk.i64_in _ (by omega)
      clear hown hp hk hp' hx hkc hkr htx HC hwl x0' x2' x3'
      by_cases hc : (n : Int) ≤ (i : Int) ∧ put = false
      · obtain ⟨hc1, rfl⟩ := hc
        rw [if_pos ⟨hc1, rfl⟩] at hgo
        have HE := As.mk (show (word ++ [t]) ++ [x.t] ++ mayGo l n t (ks.drop (k + 1)) true = mayGo l n t ks false by rw [← hgo]; simp)
        have u1 : decide ((i : Int) ≥ (n : Int)) = true := by simpa using hc1
        have u2 : decide ((n : Int) ≤ (i : Int)) = true := by simpa using hc1
        have u3 : decide (n ≤ i) = true := by simpa using hc1
        clear hgo hc1
        go_wp2_with (first | (at_builtin; refine Rp.own_append intRS HO1.out (x.t) [.int .i64 (x.t)] rfl (Fp := fun _ => False) (G := fun q => w4.heap.size ≤ q) (fun _ h => h.elim) (fun _ h _ => h) (fun q hq => by have := HP1.out.size; omega) rfl _ _ 83 _ 8 rfl Tryz.underlying83 int_infoS rfl (by decide) (by decide) rfl (by first | rfl | simp [Act.eval]) (by have := HWL.out; (try simp only [List.length_append, List.length_singleton]); omega) ?_; intro v2 w6 ho1 hu1; have HO2 := As.mk ho1; have HP2 := As.mk (HP1.out.trans hu1 (fun q hq h => by have := Rp.own_block_lt HO1.out q h; omega)); clear ho1 hu1) | (at_builtin; refine Rp.own_append intRS HO.out (t) [.int .i64 (t)] rfl (Fp := fun _ => False) (G := fun q => w4.heap.size ≤ q) (fun _ h => h.elim) (fun _ h _ => h) (fun q hq => by have := HP.out.size; omega) rfl _ _ 83 _ 8 rfl Tryz.underlying83 int_infoS rfl (by decide) (by decide) rfl (by first | rfl | simp [Act.eval]) (by have := HWL.out; omega) ?_; intro v1 w5 ho1 hu1; have HO1 := As.mk ho1; have HP1 := As.mk (HP.out.trans hu1 (fun q hq h => by have := Rp.own_block_lt HO.out q h; omega)); have y1 := (hu1.cell hbx (fun e => by have := (Rp.own_block_lt HO.out _ e).1; have := HU4.out.size; have := HBX.out; omega)).trans x1'; clear ho1 hu1))
        go_roundg g1
        case measure => omega
        case rel => exact ⟨k + 1, true, by have := HK.out; omega, by go_num, rfl, ⟨_, HO2.out, HE.out, by have := HWL.out; simp; omega, HP2.out⟩⟩
      · rw [if_neg hc] at hgo
        have HE := As.mk (show word ++ [x.t] ++ mayGo l n t (ks.drop (k + 1)) put = mayGo l n t ks false by rw [← hgo]; simp)
        have HC2 := As.mk hc
        clear hgo hc
        cases cb1 : decide ((n : Int) ≤ (i : Int)) <;> cases put
        all_goals first
          | (exfalso; exact HC2.out ⟨of_decide_eq_true cb1, rfl⟩)
          | skip
        all_goals
          have u1 : decide ((i : Int) ≥ (n : Int)) = decide ((n : Int) ≤ (i : Int)) := rfl
          rw [cb1] at u1
          have u3 : decide (n ≤ i) = decide ((n : Int) ≤ (i : Int)) := by simp
          rw [cb1] at u3
          go_wp2_with (at_builtin; refine Rp.own_append intRS HO.out (x.t) [.int .i64 (x.t)] rfl (Fp := fun _ => False) (G := fun q => w4.heap.size ≤ q) (fun _ h => h.elim) (fun _ h _ => h) (fun q hq => by have := HP.out.size; omega) rfl _ _ 83 _ 8 rfl Tryz.underlying83 int_infoS rfl (by decide) (by decide) rfl (by first | rfl | simp [Act.eval]) (by have := HWL.out; omega) ?_; intro v2 w6 ho1 hu1; have HO2 := As.mk ho1; have HP2 := As.mk (HP.out.trans hu1 (fun q hq h => by have := Rp.own_block_lt HO.out q h; omega)); clear ho1 hu1)
          go_roundg g1
          case measure => omega
          case rel => exact ⟨k + 1, _, by have := HK.out; omega, by go_num, rfl, ⟨_, HO2.out, HE.out, by have := HWL.out; simp; omega, HP2.out⟩⟩
    · obtain rfl : k = ks.length := by omega
      rw [List.drop_length, mayGo] at hgo
      have hwk : word.length ≤ 4096 := by omega
      clear hown hk hp HC hwl HKD0 HR4 HO4
      cases put
      · have HE := As.mk (show word ++ [t] = mayGo l n t ks false by rw [← hgo]; simp)
        clear hgo
        have HRES : As (∀ (V : World) (Aw : Option Addr) (cw : Nat) (Fw : Nat → Prop), Pure w V → intRS.row V Fw Aw (word ++ [t]) → Calls Tryz.prog 66 #[.agg #[.int .i64 e0.k, .string e0.name, .slice A1 e0.l.length c1], .slice AG houseGroups.length cG, .slice Aw (word.length + 1) cw] V fun r w' => r = .returned (.bool (regAccepts e0 houseGroups (mayGo l n t ks false))) ∧ Pure V w') := ⟨fun V Aw cw Fw hu hrw => by have h9 := HACC.out V hu Aw cw _ Fw hrw (by simp; omega); rw [List.length_append, List.length_singleton, HE.out] at h9; exact h9⟩
        clear HACC HE
        go_wp2_with (at_builtin; refine Rp.own_append intRS HO.out (t) [.int .i64 (t)] rfl (Fp := fun _ => False) (G := fun q => w4.heap.size ≤ q) (fun _ h => h.elim) (fun _ h _ => h) (fun q hq => by have := HP.out.size; omega) rfl _ _ 83 _ 8 rfl Tryz.underlying83 int_infoS rfl (by decide) (by decide) rfl (by first | rfl | simp [Act.eval]) (by have := HWL.out; omega) ?_; intro v2 w6 ho1 hu1; have HO2 := As.mk ho1; have HP2 := As.mk (HP.out.trans hu1 (fun q hq h => by have := Rp.own_block_lt HO.out q h; omega)); obtain ⟨A6, c6, rfl, hl6, hr6⟩ := Rp.own_slice ho1; have HR6 := As.mk hr6; clear ho1 hu1 hl6 hr6)
        try rw [List.length_append, List.length_singleton]
        have HCD := HCEL.out _ HP2.out
        have HRW := HR6
        refine wp_region_held_drew (S := (fun V => V.cell? ⟨w2.heap.size, 7, none⟩ = some (.int .i64 e0.k) ∧ V.cell? ⟨w2.heap.size, 8, none⟩ = some (.string e0.name) ∧ V.cell? ⟨w2.heap.size, 9, none⟩ = some (.slice A1 e0.l.length c1) ∧ V.cell? ⟨cb, 1, none⟩ = some (.slice AG houseGroups.length cG))) (by kernel_rfl) ?_ (fun hHeld => ?_)
        · first | exact HCEL.out _ HP9.out | exact HCEL.out _ HP2.out.drew
        refine zH 0 ?_
        refine zH 1 ?_
        refine zH 2 ?_
        refine zH 3 ?_
        (try simp only [Act.put, sA, sB, sC])
        refine zH 4 ?_
        refine zH 5 ?_
        refine zH 6 ?_
        refine wpAnyH_ready (rs := [7]) (by kernel_rfl) (by simp) (AllReadyH.cons (o := { dst := (some 98), op := (Go.Op.call { callee := (Go.Callee.value (Go.Operand.func 66)), args := #[(Go.Operand.tmp 92), (Go.Operand.tmp 96), (Go.Operand.tmp 97)], argTypes := #[92, 86, 83] }), type := 4, pos := "schema.go:185", after := #[{ on := 1, ground := Go.Ground.data }, { on := 5, ground := Go.Ground.data }, { on := 6, ground := Go.Ground.data }], guard := none }) rfl (fun K hK => ?_) AllReadyH.nil)
        go_simp
        (go_at_call 66; refine (HRES.out _ _ _ _ (HU4.out.trans HP2.out.drew (fun _ _ h => h)) (Rp.row_pure HRW.out ((Upd.refl (fun _ => False) _).drew))).mono ?_; rintro r w9 ⟨rfl, hu⟩; have HP9 := As.mk (HP2.out.drew.trans hu (fun _ _ h => h)); clear hu)
        refine hK.out _ _ (by first | exact HCEL.out _ HP9.out | exact HCEL.out _ HP2.out.drew) (fun hHeld => ?_)
        clear hK K
        (try simp only [Act.put, sA, sB, sC])
        refine zH 8 ?_
        refine wpAnyH_done (by kernel_rfl) ?_ _
        go_wp2
        go_ret
        exact ⟨by rw [HKS.out]; rfl, HU4.out.trans HP9.out (fun _ _ h => h)⟩
      · have HE := As.mk (show word = mayGo l n t ks false by rw [← hgo]; simp)
        clear hgo
        obtain ⟨A6, c6, rfl, hl6, hr6⟩ := Rp.own_slice HO.out
        have HRW := As.mk hr6
        have HRES : As (∀ (V : World) (Aw : Option Addr) (cw : Nat) (Fw : Nat → Prop), Pure w V → intRS.row V Fw Aw word → Calls Tryz.prog 66 #[.agg #[.int .i64 e0.k, .string e0.name, .slice A1 e0.l.length c1], .slice AG houseGroups.length cG, .slice Aw word.length cw] V fun r w' => r = .returned (.bool (regAccepts e0 houseGroups (mayGo l n t ks false))) ∧ Pure V w') := ⟨fun V Aw cw Fw hu hrw => by have h9 := HACC.out V hu Aw cw _ Fw hrw (by omega); rw [← HE.out]; exact h9⟩
        clear HACC HE hr6
        go_wp2
        refine wp_region_held_drew (S := (fun V => V.cell? ⟨w2.heap.size, 7, none⟩ = some (.int .i64 e0.k) ∧ V.cell? ⟨w2.heap.size, 8, none⟩ = some (.string e0.name) ∧ V.cell? ⟨w2.heap.size, 9, none⟩ = some (.slice A1 e0.l.length c1) ∧ V.cell? ⟨cb, 1, none⟩ = some (.slice AG houseGroups.length cG))) (by kernel_rfl) ?_ (fun hHeld => ?_)
        · first | exact HCEL.out _ HP9.out | exact HCEL.out _ HP.out.drew
        refine zH 0 ?_
        refine zH 1 ?_
        refine zH 2 ?_
        (try simp only [Act.put, sA, sB, sC])
        refine zH 3 ?_
        refine zH 4 ?_
        refine zH 5 ?_
        refine zH 6 ?_
        (try simp only [Act.put, sA, sB, sC])
        refine wpAnyH_ready (rs := [7]) (by kernel_rfl) (by simp) (AllReadyH.cons (o := { dst := (some 98), op := (Go.Op.call { callee := (Go.Callee.value (Go.Operand.func 66)), args := #[(Go.Operand.tmp 92), (Go.Operand.tmp 96), (Go.Operand.tmp 97)], argTypes := #[92, 86, 83] }), type := 4, pos := "schema.go:185", after := #[{ on := 1, ground := Go.Ground.data }, { on := 5, ground := Go.Ground.data }, { on := 6, ground := Go.Ground.data }], guard := none }) rfl (fun K hK => ?_) AllReadyH.nil)
        go_simp
        (go_at_call 66; refine (HRES.out _ _ _ _ (HU4.out.trans HP.out.drew (fun _ _ h => h)) (Rp.row_pure HRW.out ((Upd.refl (fun _ => False) _).drew))).mono ?_; rintro r w9 ⟨rfl, hu⟩; have HP9 := As.mk (HP.out.drew.trans hu (fun _ _ h => h)); clear hu)
        refine hK.out _ _ (by first | exact HCEL.out _ HP9.out | exact HCEL.out _ HP.out.drew) (fun hHeld => ?_)
        clear hK K
        (try simp only [Act.put, sA, sB, sC])
        refine zH 8 ?_
        refine wpAnyH_done (by kernel_rfl) ?_ _
        go_wp2
        go_ret
        exact ⟨by rw [HKS.out]; rfl, HU4.out.trans HP9.out (fun _ _ h => h)⟩
set_option maxRecDepth 100000 in
set_option maxHeartbeats 4000000 in
theorem May_in {w : World} {cb : Nat} {F : Nat → Prop} {A : Option Addr} {c : Nat} {l : List Tok} {n : Nat} {t : Int} {R : Spec × Ex} (h : SchR w cb houseRules houseGroups) (hr : tokR.row w F A l) (hb : l.length ≤ 2048) (hlc : l.length ≤ c) (ok : (houseCheck l).2 = 0) (hn : n ≤ l.length) (hP : AtP l n R) (hw : ∃ (j yt : Nat) (y : Tok), aroundL l n = j ∧ l[j]? = some y ∧ y.k = 1 ∧ y.t = yt ∧ 1 ≤ yt ∧ houseRules[yt]? = some R) :
    Calls Tryz.prog 19 #[.pointer (some ⟨cb, 0, none⟩), .slice A l.length c, .int .i64 n, .int .i64 t] w fun r w' => r = .returned (.bool (regAccepts R.2 houseGroups (mayGo l n t (kidsL l (aroundL l n)) false))) ∧ Pure w w' := by
  have HS := As.mk h
  have HR := As.mk hr
  have HKD0 := As.mk hP.kids
  have HCK := As.mk (house_check (c := c) h hr (by omega))
  rw [ok] at HCK
  have HAR := As.mk (fun (W : World) (hu : Pure w W) => around_calls (c := c) (at' := (n : Int)) (Rp.row_pure hr hu) (by omega) hlc)
  obtain ⟨j, yt, y, ha, hy, hy1, hyt, hyt1, hyR⟩ := hw
  have HKI := As.mk (fun (W : World) (hu : Pure w W) => Kids_in (c := c) (Rp.row_pure hr hu) (by omega) hy hy1)
  obtain ⟨xR, eR⟩ := R
  obtain ⟨z0, hy0⟩ : ∃ z0, houseRules[0]? = some z0 := ⟨_, List.getElem?_eq_getElem (by rw [house_len]; decide)⟩
  obtain ⟨x0, e0⟩ := z0
  rw [ha] at HAR HKD0
  rw [ha]
  have HKL := As.mk (show (kidsL l (j : Int)).length ≤ 2048 by have := kidsL_len l (j : Int); omega)
  obtain ⟨b0, o0, cL, AG, cG, p0, p1, hcb, hle, hb0, hrow, hgrow⟩ := rule_row h
  have HG := As.mk hgrow
  obtain ⟨b0', o0', A1, c1, hA, _, _, d0, d1, d2, d3, d4, d5, d6, d7, d8, d9, hl1, hx1⟩ := rule_at hrow hy0
  simp only [Option.some.injEq, Addr.mk.injEq] at hA
  obtain ⟨rfl, rfl, _⟩ := hA
  simp only [Nat.zero_mul, Nat.add_zero] at d0 d1 d2 d3 d4 d5 d6 d7 d8 d9
  obtain ⟨b0', o0', A2, c2, hA, _, _, g0, g1, g2, g3, g4, g5, g6, g7, g8, g9, hl2, hx2⟩ := rule_at hrow hyR
  simp only [Option.some.injEq, Addr.mk.injEq] at hA
  obtain ⟨rfl, rfl, _⟩ := hA
  have hytl : yt < 8 := by have := (List.getElem?_eq_some_iff.1 hyR).1; rw [house_len] at this; exact this
  have hyti : (yt : Int) < 8 := by omega
  obtain ⟨bt, ot, rfl, _, hbt, q0, q1, q2, q3⟩ := tok_at hr hy
  rw [hyt] at q1
  have hjl : j < l.length := (List.getElem?_eq_some_iff.1 hy).1
  have HMEM := As.mk (List.mem_of_getElem? hyR)
  have HXR := As.mk hx2
  have HBT := As.mk (fun (bx : Nat) (_ : bx = bx) => trivial)
  have t1 : decide ((n : Int) < 0) = false := by simp
  have t2 : decide ((n : Int) > (l.length : Int)) = false := by simp; omega
  have t3 : decide ((l.length : Int) < (n : Int)) = false := by simp; omega
  have t4 : decide (l.length < n) = false := by simp; omega
  clear h hr ok hP hrow hgrow hx1 ha hy hy1 hyt hyR hx2 hy0
  go_enter Tryz.func19, Tryz.ntmps19
  go_wp2_with (first | (go_at_call 72; refine (HAR.out w1 HU1.out).mono ?_; rintro r w2 ⟨rfl, hu⟩; have HU2 := As.mk (HU1.out.trans hu (fun _ _ h => h)); obtain ⟨oc, of⟩ := Pure.olds HU2.out; have hz2 := HU2.out.size; clear hu) | (go_at_call 15; refine HCK.out.mono ?_; rintro r w1 ⟨rfl, hu⟩; have HU1 := As.mk hu; clear hu))
  obtain ⟨W3, hW3⟩ : ∃ W3, W3 = w2.alloc (.cells #[.string x0.name, .string x0.expr, .bool x0.leaf, .int .i64 x0.marks, .int .i64 x0.least, .int .i64 x0.most, .bool x0.lines, .int .i64 e0.k, .string e0.name, .slice A1 e0.l.length c1] 94) := ⟨_, rfl⟩
  have HU3 := As.mk (show Pure w W3 from hW3 ▸ HU2.out.alloc _)
  have hW3b : W3.heap[w2.heap.size]? = some (.cells #[.string x0.name, .string x0.expr, .bool x0.leaf, .int .i64 x0.marks, .int .i64 x0.least, .int .i64 x0.most, .bool x0.lines, .int .i64 e0.k, .string e0.name, .slice A1 e0.l.length c1] 94 (0, 0)) := hW3 ▸ heap_alloc_new w2 _
  have HW3B := As.mk hW3b
  have hz3 : w2.heap.size < W3.heap.size := (Array.getElem?_eq_some_iff.1 hW3b).1
  have HZ := As.mk (And.intro hz2 hz3)
  have HSK7 : As (∀ V, Pure W3 V → V.cell? ⟨cb, 0, none⟩ = some (.slice (some ⟨b0, o0, none⟩) 8 cL) ∧ V.cell? ⟨bt, ot + j * 4 + 1, none⟩ = some (.int .i64 (yt : Int)) ∧ V.cell? ⟨b0, o0 + yt * 10, none⟩ = some (.string xR.name) ∧ V.cell? ⟨b0, o0 + yt * 10 + 1, none⟩ = some (.string xR.expr) ∧ V.cell? ⟨b0, o0 + yt * 10 + 2, none⟩ = some (.bool xR.leaf) ∧ V.cell? ⟨b0, o0 + yt * 10 + 3, none⟩ = some (.int .i64 xR.marks) ∧ V.cell? ⟨b0, o0 + yt * 10 + 4, none⟩ = some (.int .i64 xR.least) ∧ V.cell? ⟨b0, o0 + yt * 10 + 5, none⟩ = some (.int .i64 xR.most) ∧ V.cell? ⟨b0, o0 + yt * 10 + 6, none⟩ = some (.bool xR.lines) ∧ V.cell? ⟨b0, o0 + yt * 10 + 7, none⟩ = some (.int .i64 eR.k) ∧ V.cell? ⟨b0, o0 + yt * 10 + 8, none⟩ = some (.string eR.name) ∧ V.cell? ⟨b0, o0 + yt * 10 + 9, none⟩ = some (.slice A2 eR.l.length c2) ∧ V.frozen? ⟨w2.heap.size, 0, none⟩ = false ∧ V.frozen? ⟨w2.heap.size, 1, none⟩ = false ∧ V.frozen? ⟨w2.heap.size, 2, none⟩ = false ∧ V.frozen? ⟨w2.heap.size, 3, none⟩ = false ∧ V.frozen? ⟨w2.heap.size, 4, none⟩ = false ∧ V.frozen? ⟨w2.heap.size, 5, none⟩ = false ∧ V.frozen? ⟨w2.heap.size, 6, none⟩ = false ∧ V.frozen? ⟨w2.heap.size, 7, none⟩ = false ∧ V.frozen? ⟨w2.heap.size, 8, none⟩ = false ∧ V.frozen? ⟨w2.heap.size, 9, none⟩ = false) := ⟨fun V hu => by
    have hu2 := HU3.out.trans hu (fun _ _ h => h)
    have hf : ∀ i, V.frozen? ⟨w2.heap.size, i, none⟩ = false := fun i => (hu.frozen hz3 (fun h => h)).trans (by simp [World.frozen?, hW3b])
    exact ⟨(hu2.cell hcb (fun h => h)).trans p0, (hu2.cell hbt (fun h => h)).trans q1, (hu2.cell hb0 (fun h => h)).trans g0, (hu2.cell hb0 (fun h => h)).trans g1, (hu2.cell hb0 (fun h => h)).trans g2, (hu2.cell hb0 (fun h => h)).trans g3, (hu2.cell hb0 (fun h => h)).trans g4, (hu2.cell hb0 (fun h => h)).trans g5, (hu2.cell hb0 (fun h => h)).trans g6, (hu2.cell hb0 (fun h => h)).trans g7, (hu2.cell hb0 (fun h => h)).trans g8, (hu2.cell hb0 (fun h => h)).trans g9, hf 0, hf 1, hf 2, hf 3, hf 4, hf 5, hf 6, hf 7, hf 8, hf 9⟩⟩
  have HW3D := As.mk (show W3.drew.heap[w2.heap.size]? = some (.cells #[.string x0.name, .string x0.expr, .bool x0.leaf, .int .i64 x0.marks, .int .i64 x0.least, .int .i64 x0.most, .bool x0.lines, .int .i64 e0.k, .string e0.name, .slice A1 e0.l.length c1] 94 (0, 0)) from hW3b)
  rw [← hW3]
  clear hW3 hW3b g0 g1 g2 g3 g4 g5 g6 g7 g8 g9 d0 d1 d2 d3 d4 d5 d6 d7 d8 d9
  refine wp_region_T (P := Tryz.prog) (fun V => V.cell? ⟨cb, 0, none⟩ = some (.slice (some ⟨b0, o0, none⟩) 8 cL) ∧ V.cell? ⟨bt, ot + j * 4 + 1, none⟩ = some (.int .i64 (yt : Int)) ∧ V.cell? ⟨b0, o0 + yt * 10, none⟩ = some (.string xR.name) ∧ V.cell? ⟨b0, o0 + yt * 10 + 1, none⟩ = some (.string xR.expr) ∧ V.cell? ⟨b0, o0 + yt * 10 + 2, none⟩ = some (.bool xR.leaf) ∧ V.cell? ⟨b0, o0 + yt * 10 + 3, none⟩ = some (.int .i64 xR.marks) ∧ V.cell? ⟨b0, o0 + yt * 10 + 4, none⟩ = some (.int .i64 xR.least) ∧ V.cell? ⟨b0, o0 + yt * 10 + 5, none⟩ = some (.int .i64 xR.most) ∧ V.cell? ⟨b0, o0 + yt * 10 + 6, none⟩ = some (.bool xR.lines) ∧ V.cell? ⟨b0, o0 + yt * 10 + 7, none⟩ = some (.int .i64 eR.k) ∧ V.cell? ⟨b0, o0 + yt * 10 + 8, none⟩ = some (.string eR.name) ∧ V.cell? ⟨b0, o0 + yt * 10 + 9, none⟩ = some (.slice A2 eR.l.length c2) ∧ V.frozen? ⟨w2.heap.size, 0, none⟩ = false ∧ V.frozen? ⟨w2.heap.size, 1, none⟩ = false ∧ V.frozen? ⟨w2.heap.size, 2, none⟩ = false ∧ V.frozen? ⟨w2.heap.size, 3, none⟩ = false ∧ V.frozen? ⟨w2.heap.size, 4, none⟩ = false ∧ V.frozen? ⟨w2.heap.size, 5, none⟩ = false ∧ V.frozen? ⟨w2.heap.size, 6, none⟩ = false ∧ V.frozen? ⟨w2.heap.size, 7, none⟩ = false ∧ V.frozen? ⟨w2.heap.size, 8, none⟩ = false ∧ V.frozen? ⟨w2.heap.size, 9, none⟩ = false) 11 (by kernel_rfl) ?_ (fun hHeld => ?_)
  · exact HSK7.out _ ((Upd.refl _ _).drew)
  refine zT 0 ?_
  refine zT 1 ?_
  (try simp only [Act.put, sA, sB, sC])
  refine zT 2 ?_
  refine zT 3 ?_
  refine zT 4 ?_
  refine zT 5 ?_
  (try simp only [Act.put, sA, sB, sC])
  refine zT 6 ?_
  refine zT 7 ?_
  refine zT 8 ?_
  refine zT 9 ?_
  (try simp only [Act.put, sA, sB, sC])
  refine zT 10 ?_
  refine oT 11 (fun K hK => ?_)
  refine step_store_row rfl _ _ _ rfl w2.heap.size #[.string xR.name, .string xR.expr, .bool xR.leaf, .int .i64 xR.marks, .int .i64 xR.least, .int .i64 xR.most, .bool xR.lines, .int .i64 eR.k, .string eR.name, .slice A2 eR.l.length c2] (by rfl) (by rfl) 94 _ HW3D.out (by kernel_rfl) (by rfl) (by first | kernel_rfl | simp [Value.oneCell']) ?_
  refine hK.out _ _ (fun h => absurd rfl h) (fun hHeld => ?_)
  clear hK K
  (try simp only [Act.put, sA, sB, sC])
  refine wpAnyT_done (by kernel_rfl) ?_ _
  obtain ⟨W5, hW5⟩ : ∃ W5, W5 = W3.drew.setRow w2.heap.size #[.string xR.name, .string xR.expr, .bool xR.leaf, .int .i64 xR.marks, .int .i64 xR.least, .int .i64 xR.most, .bool xR.lines, .int .i64 eR.k, .string eR.name, .slice A2 eR.l.length c2] := ⟨_, rfl⟩
  have HU5 := As.mk (show Pure w W5 from hW5 ▸ HU3.out.drew.trans (setRow_upd W3.drew w2.heap.size _) (fun q hq h => by have := HZ.out.1; omega))
  have HB5 := As.mk (show W5.heap[w2.heap.size]? = some (.cells #[.string xR.name, .string xR.expr, .bool xR.leaf, .int .i64 xR.marks, .int .i64 xR.least, .int .i64 xR.most, .bool xR.lines, .int .i64 eR.k, .string eR.name, .slice A2 eR.l.length c2] 94 (0, 0)) from hW5 ▸ setRow_heap W3.drew w2.heap.size _ _ _ _ HW3D.out)
  rw [← hW5]
  clear hW5
  go_wp2_with (go_at_call 76; refine (HKI.out W5 HU5.out).mono ?_; rintro r w4 ⟨v4, rfl, ho, hu⟩; have HO4 := As.mk ho; have HP4 := As.mk hu; have HU4 := As.mk (HU5.out.trans hu (fun _ _ h => h)); obtain ⟨A4, c4, rfl, hl4, hr4⟩ := Rp.own_slice ho; have HR4 := As.mk hr4; clear hu ho hr4; apply As.out)
  refine ⟨?_⟩
  have HM := As.mk (show (xR, eR) ∈ houseRules from HMEM.out)
  have HB4 := As.mk ((HP4.out.block w2.heap.size (Array.getElem?_eq_some_iff.1 HB5.out).1 (fun h => h)).trans HB5.out)
  have HCEL : As (∀ V, Pure w4 V → V.cell? ⟨w2.heap.size, 7, none⟩ = some (.int .i64 eR.k) ∧ V.cell? ⟨w2.heap.size, 8, none⟩ = some (.string eR.name) ∧ V.cell? ⟨w2.heap.size, 9, none⟩ = some (.slice A2 eR.l.length c2) ∧ V.cell? ⟨cb, 1, none⟩ = some (.slice AG houseGroups.length cG)) := ⟨fun V hu => by
    have hb := (hu.block w2.heap.size (Array.getElem?_eq_some_iff.1 HB4.out).1 (fun h => h)).trans HB4.out
    refine ⟨?_, ?_, ?_, ((HU4.out.trans hu (fun _ _ h => h)).cell hcb (fun h => h)).trans p1⟩ <;> (unfold World.cell?; simp only [hb]; rfl)⟩
  have HACC := As.mk (fun (V : World) (hu : Pure w V) (Aw : Option Addr) (cw : Nat) (wd : List Int) (Fw : Nat → Prop) (hw : intRS.row V Fw Aw wd) (hwl : wd.length ≤ 1048576) => acc_calls (c := c2) (d := cG) (cw := cw) (SchR.made house_ok HG.out hu HM.out (Rp.row_move (fun k hk hl => ⟨hl, Nat.lt_of_lt_of_le hl hu.size, hu.block k hl (fun h => h)⟩) HXR.out)) hw (by omega))
  have hkl4 := HKL.out
  generalize hks : kidsL l (j : Int) = ks at *
  have HKS := As.mk hks
  clear hks HKI HAR HCK HB5 HW3B HP4 HU3 HU2 HU1
  go_wp2
  go_loopg [13, 14, 61] ks.length (fun gg vv pv kv wr => ∃ (k : Nat) (put : Bool), k + gg = ks.length ∧ kv = .int .i64 k ∧ pv = .bool put ∧ As (∃ word : List Int, intRS.own 3 wr (fun q => w4.heap.size ≤ q) vv word ∧ word ++ mayGo l n t (ks.drop k) put = mayGo l n t ks false ∧ word.length ≤ 2 * k ∧ Pure w4 wr))
  case atStart => exact ⟨0, false, by omega, rfl, rfl, ⟨[], Rp.own_nil _ _ _ _, rfl, by simp, Upd.refl _ _⟩⟩
  case round =>
    obtain ⟨k, put, hk, rfl, rfl, HC⟩ := hrel
    obtain ⟨word, hown, hgo, hwl, hp⟩ := HC.out
    have HO := As.mk hown
    have HP := As.mk hp
    have HWL := As.mk hwl
    by_cases hlt : k < ks.length
    · obtain ⟨p, hp'⟩ : ∃ p, ks[k]? = some p := ⟨_, List.getElem?_eq_getElem hlt⟩
      obtain ⟨i, x, rfl, hx, _⟩ := HKD0.out p (List.mem_of_getElem? hp')
      obtain ⟨kb, ko, kcs, hA4, _, hkb, hkr, hkc⟩ := Rp.row_at (Rp.row_pure HR4.out HP.out) hp'
      have hkr2 : kcs = [.int .i64 (i : Int)] := hkr
      subst hkr2
      have f0 := hkc 0 _ rfl
      rw [show intRS.sz = 1 from rfl, Nat.mul_one, Nat.add_zero] at f0
      subst hA4
      obtain ⟨bx, ox, hAx, _, hbx0, x0', x1', x2', x3'⟩ := tok_at HR.out hx
      simp only [Option.some.injEq, Addr.mk.injEq] at hAx
      obtain ⟨rfl, rfl, _⟩ := hAx
      have HUW := As.mk (HU4.out.trans HP.out (fun _ _ h => h))
      replace x1' := (HUW.out.cell hbx0 (fun h => h)).trans x1'
      have hbx : bt < wr.heap.size := Nat.lt_of_lt_of_le hbx0 HUW.out.size
      have HBX := As.mk hbx0
      have hil : i < l.length := (List.getElem?_eq_some_iff.1 hx).1
      have htx : tyAt l (i : Int) = x.t := by unfold tyAt; rw [Int.toNat_natCast, hx]; rfl
      obtain ⟨g1, rfl⟩ : ∃ m, gk = m + 1 := ⟨gk - 1, by omega⟩
      rw [drop_cons hp', mayGo, htx] at hgo
      have HK := As.mk hk
      have hwk : IntKind.i64.wrap ((k : Int) + 1) = (k : Int) + 1 := IntWalk.i64_in _ (by omega)
      clear hown hp hk hp' hx hkc hkr htx HC hwl x0' x2' x3'
      by_cases hc : (n : Int) ≤ (i : Int) ∧ put = false
      · obtain ⟨hc1, rfl⟩ := hc
        rw [if_pos ⟨hc1, rfl⟩] at hgo
        have HE := As.mk (show (word ++ [t]) ++ [x.t] ++ mayGo l n t (ks.drop (k + 1)) true = mayGo l n t ks false by rw [← hgo]; simp)
        have u1 : decide ((i : Int) ≥ (n : Int)) = true := by simpa using hc1
        have u2 : decide ((n : Int) ≤ (i : Int)) = true := by simpa using hc1
        have u3 : decide (n ≤ i) = true := by simpa using hc1
        clear hgo hc1
        go_wp2_with (first | (at_builtin; refine Rp.own_append intRS HO1.out (x.t) [.int .i64 (x.t)] rfl (Fp := fun _ => False) (G := fun q => w4.heap.size ≤ q) (fun _ h => h.elim) (fun _ h _ => h) (fun q hq => by have := HP1.out.size; omega) rfl _ _ 83 _ 8 rfl Tryz.underlying83 int_infoS rfl (by decide) (by decide) rfl (by first | rfl | simp [Act.eval]) (by have := HWL.out; (try simp only [List.length_append, List.length_singleton]); omega) ?_; intro v2 w6 ho1 hu1; have HO2 := As.mk ho1; have HP2 := As.mk (HP1.out.trans hu1 (fun q hq h => by have := Rp.own_block_lt HO1.out q h; omega)); clear ho1 hu1) | (at_builtin; refine Rp.own_append intRS HO.out (t) [.int .i64 (t)] rfl (Fp := fun _ => False) (G := fun q => w4.heap.size ≤ q) (fun _ h => h.elim) (fun _ h _ => h) (fun q hq => by have := HP.out.size; omega) rfl _ _ 83 _ 8 rfl Tryz.underlying83 int_infoS rfl (by decide) (by decide) rfl (by first | rfl | simp [Act.eval]) (by have := HWL.out; omega) ?_; intro v1 w5 ho1 hu1; have HO1 := As.mk ho1; have HP1 := As.mk (HP.out.trans hu1 (fun q hq h => by have := Rp.own_block_lt HO.out q h; omega)); have y1 := (hu1.cell hbx (fun e => by have := (Rp.own_block_lt HO.out _ e).1; have := HU4.out.size; have := HBX.out; omega)).trans x1'; clear ho1 hu1))
        go_roundg g1
        case measure => omega
        case rel => exact ⟨k + 1, true, by have := HK.out; omega, by go_num, rfl, ⟨_, HO2.out, HE.out, by have := HWL.out; simp; omega, HP2.out⟩⟩
      · rw [if_neg hc] at hgo
        have HE := As.mk (show word ++ [x.t] ++ mayGo l n t (ks.drop (k + 1)) put = mayGo l n t ks false by rw [← hgo]; simp)
        have HC2 := As.mk hc
        clear hgo hc
        cases cb1 : decide ((n : Int) ≤ (i : Int)) <;> cases put
        all_goals first
          | (exfalso; exact HC2.out ⟨of_decide_eq_true cb1, rfl⟩)
          | skip
        all_goals
          have u1 : decide ((i : Int) ≥ (n : Int)) = decide ((n : Int) ≤ (i : Int)) := rfl
          rw [cb1] at u1
          have u3 : decide (n ≤ i) = decide ((n : Int) ≤ (i : Int)) := by simp
          rw [cb1] at u3
          go_wp2_with (at_builtin; refine Rp.own_append intRS HO.out (x.t) [.int .i64 (x.t)] rfl (Fp := fun _ => False) (G := fun q => w4.heap.size ≤ q) (fun _ h => h.elim) (fun _ h _ => h) (fun q hq => by have := HP.out.size; omega) rfl _ _ 83 _ 8 rfl Tryz.underlying83 int_infoS rfl (by decide) (by decide) rfl (by first | rfl | simp [Act.eval]) (by have := HWL.out; omega) ?_; intro v2 w6 ho1 hu1; have HO2 := As.mk ho1; have HP2 := As.mk (HP.out.trans hu1 (fun q hq h => by have := Rp.own_block_lt HO.out q h; omega)); clear ho1 hu1)
          go_roundg g1
          case measure => omega
          case rel => exact ⟨k + 1, _, by have := HK.out; omega, by go_num, rfl, ⟨_, HO2.out, HE.out, by have := HWL.out; simp; omega, HP2.out⟩⟩
    · obtain rfl : k = ks.length := by omega
      rw [List.drop_length, mayGo] at hgo
      have hwk : word.length ≤ 4096 := by omega
      clear hown hk hp HC hwl HKD0 HR4 HO4
      cases put
      · have HE := As.mk (show word ++ [t] = mayGo l n t ks false by rw [← hgo]; simp)
        clear hgo
        have HRES : As (∀ (V : World) (Aw : Option Addr) (cw : Nat) (Fw : Nat → Prop), Pure w V → intRS.row V Fw Aw (word ++ [t]) → Calls Tryz.prog 66 #[.agg #[.int .i64 eR.k, .string eR.name, .slice A2 eR.l.length c2], .slice AG houseGroups.length cG, .slice Aw (word.length + 1) cw] V fun r w' => r = .returned (.bool (regAccepts eR houseGroups (mayGo l n t ks false))) ∧ Pure V w') := ⟨fun V Aw cw Fw hu hrw => by have h9 := HACC.out V hu Aw cw _ Fw hrw (by simp; omega); rw [List.length_append, List.length_singleton, HE.out] at h9; exact h9⟩
        clear HACC HE
        go_wp2_with (at_builtin; refine Rp.own_append intRS HO.out (t) [.int .i64 (t)] rfl (Fp := fun _ => False) (G := fun q => w4.heap.size ≤ q) (fun _ h => h.elim) (fun _ h _ => h) (fun q hq => by have := HP.out.size; omega) rfl _ _ 83 _ 8 rfl Tryz.underlying83 int_infoS rfl (by decide) (by decide) rfl (by first | rfl | simp [Act.eval]) (by have := HWL.out; omega) ?_; intro v2 w6 ho1 hu1; have HO2 := As.mk ho1; have HP2 := As.mk (HP.out.trans hu1 (fun q hq h => by have := Rp.own_block_lt HO.out q h; omega)); obtain ⟨A6, c6, rfl, hl6, hr6⟩ := Rp.own_slice ho1; have HR6 := As.mk hr6; clear ho1 hu1 hl6 hr6)
        try rw [List.length_append, List.length_singleton]
        have HCD := HCEL.out _ HP2.out
        have HRW := HR6
        refine wp_region_held_drew (S := (fun V => V.cell? ⟨w2.heap.size, 7, none⟩ = some (.int .i64 eR.k) ∧ V.cell? ⟨w2.heap.size, 8, none⟩ = some (.string eR.name) ∧ V.cell? ⟨w2.heap.size, 9, none⟩ = some (.slice A2 eR.l.length c2) ∧ V.cell? ⟨cb, 1, none⟩ = some (.slice AG houseGroups.length cG))) (by kernel_rfl) ?_ (fun hHeld => ?_)
        · first | exact HCEL.out _ HP9.out | exact HCEL.out _ HP2.out.drew
        refine zH 0 ?_
        refine zH 1 ?_
        (try simp only [Act.put, sA, sB, sC])
        refine zH 2 ?_
        refine zH 3 ?_
        refine zH 4 ?_
        refine zH 5 ?_
        (try simp only [Act.put, sA, sB, sC])
        refine zH 6 ?_
        refine wpAnyH_ready (rs := [7]) (by kernel_rfl) (by simp) (AllReadyH.cons (o := { dst := (some 98), op := (Go.Op.call { callee := (Go.Callee.value (Go.Operand.func 66)), args := #[(Go.Operand.tmp 92), (Go.Operand.tmp 96), (Go.Operand.tmp 97)], argTypes := #[92, 86, 83] }), type := 4, pos := "schema.go:185", after := #[{ on := 1, ground := Go.Ground.data }, { on := 5, ground := Go.Ground.data }, { on := 6, ground := Go.Ground.data }], guard := none }) rfl (fun K hK => ?_) AllReadyH.nil)
        go_simp
        (go_at_call 66; refine (HRES.out _ _ _ _ (HU4.out.trans HP2.out.drew (fun _ _ h => h)) (Rp.row_pure HRW.out ((Upd.refl (fun _ => False) _).drew))).mono ?_; rintro r w9 ⟨rfl, hu⟩; have HP9 := As.mk (HP2.out.drew.trans hu (fun _ _ h => h)); clear hu)
        refine hK.out _ _ (by first | exact HCEL.out _ HP9.out | exact HCEL.out _ HP2.out.drew) (fun hHeld => ?_)
        clear hK K
        (try simp only [Act.put, sA, sB, sC])
        refine zH 8 ?_
        refine wpAnyH_done (by kernel_rfl) ?_ _
        go_wp2
        go_ret
        exact ⟨by rw [HKS.out]; rfl, HU4.out.trans HP9.out (fun _ _ h => h)⟩
      · have HE := As.mk (show word = mayGo l n t ks false by rw [← hgo]; simp)
        clear hgo
        obtain ⟨A6, c6, rfl, hl6, hr6⟩ := Rp.own_slice HO.out
        have HRW := As.mk hr6
        have HRES : As (∀ (V : World) (Aw : Option Addr) (cw : Nat) (Fw : Nat → Prop), Pure w V → intRS.row V Fw Aw word → Calls Tryz.prog 66 #[.agg #[.int .i64 eR.k, .string eR.name, .slice A2 eR.l.length c2], .slice AG houseGroups.length cG, .slice Aw word.length cw] V fun r w' => r = .returned (.bool (regAccepts eR houseGroups (mayGo l n t ks false))) ∧ Pure V w') := ⟨fun V Aw cw Fw hu hrw => by have h9 := HACC.out V hu Aw cw _ Fw hrw (by omega); rw [← HE.out]; exact h9⟩
        clear HACC HE hr6
        go_wp2
        refine wp_region_held_drew (S := (fun V => V.cell? ⟨w2.heap.size, 7, none⟩ = some (.int .i64 eR.k) ∧ V.cell? ⟨w2.heap.size, 8, none⟩ = some (.string eR.name) ∧ V.cell? ⟨w2.heap.size, 9, none⟩ = some (.slice A2 eR.l.length c2) ∧ V.cell? ⟨cb, 1, none⟩ = some (.slice AG houseGroups.length cG))) (by kernel_rfl) ?_ (fun hHeld => ?_)
        · first | exact HCEL.out _ HP9.out | exact HCEL.out _ HP.out.drew
        refine zH 0 ?_
        (try simp only [Act.put, sA, sB, sC])
        refine zH 1 ?_
        refine zH 2 ?_
        refine zH 3 ?_
        refine zH 4 ?_
        (try simp only [Act.put, sA, sB, sC])
        refine zH 5 ?_
        refine zH 6 ?_
        refine wpAnyH_ready (rs := [7]) (by kernel_rfl) (by simp) (AllReadyH.cons (o := { dst := (some 98), op := (Go.Op.call { callee := (Go.Callee.value (Go.Operand.func 66)), args := #[(Go.Operand.tmp 92), (Go.Operand.tmp 96), (Go.Operand.tmp 97)], argTypes := #[92, 86, 83] }), type := 4, pos := "schema.go:185", after := #[{ on := 1, ground := Go.Ground.data }, { on := 5, ground := Go.Ground.data }, { on := 6, ground := Go.Ground.data }], guard := none }) rfl (fun K hK => ?_) AllReadyH.nil)
        go_simp
        (go_at_call 66; refine (HRES.out _ _ _ _ (HU4.out.trans HP.out.drew (fun _ _ h => h)) (Rp.row_pure HRW.out ((Upd.refl (fun _ => False) _).drew))).mono ?_; rintro r w9 ⟨rfl, hu⟩; have HP9 := As.mk (HP.out.drew.trans hu (fun _ _ h => h)); clear hu)
        refine hK.out _ _ (by first | exact HCEL.out _ HP9.out | exact HCEL.out _ HP.out.drew) (fun hHeld => ?_)
        clear hK K
        (try simp only [Act.put, sA, sB, sC])
        refine zH 8 ?_
        (try simp only [Act.put, sA, sB, sC])
        refine wpAnyH_done (by kernel_rfl) ?_ _
        go_wp2
        go_ret
        exact ⟨by rw [HKS.out]; rfl, HU4.out.trans HP9.out (fun _ _ h => h)⟩
theorem May_ok {w : World} {cb : Nat} {F : Nat → Prop} {A : Option Addr} {c : Nat} {l : List Tok} {n : Nat} {t : Int} {R : Spec × Ex} (h : SchR w cb houseRules houseGroups) (hr : tokR.row w F A l) (hb : l.length ≤ 2048) (hlc : l.length ≤ c) (ok : (houseCheck l).2 = 0) (hn : n ≤ l.length) (hP : AtP l n R)  :
    Calls Tryz.prog 19 #[.pointer (some ⟨cb, 0, none⟩), .slice A l.length c, .int .i64 n, .int .i64 t] w fun r w' => r = .returned (.bool (regAccepts R.2 houseGroups (mayGo l n t (kidsL l (aroundL l n)) false))) ∧ Pure w w' := by
  rcases hP.whole with hw | hw
  · exact May_whole h hr hb hlc ok hn hP hw
  · exact May_in h hr hb hlc ok hn hP hw
set_option maxRecDepth 100000 in
set_option maxHeartbeats 4000000 in
theorem May_no {w : World} {cb : Nat} {F : Nat → Prop} {A : Option Addr} {c : Nat} {l : List Tok} {n t : Int} (h : SchR w cb houseRules houseGroups) (hr : tokR.row w F A l) (hb : l.length ≤ 1048576 * 4) (hno : (houseCheck l).2 ≠ 0 ∨ n < 0 ∨ (l.length : Int) < n) :
    Calls Tryz.prog 19 #[.pointer (some ⟨cb, 0, none⟩), .slice A l.length c, .int .i64 n, .int .i64 t] w fun r w' => r = .returned (.bool false) ∧ Pure w w' := by
  have HCK := As.mk (house_check (c := c) h hr hb)
  have HNO := As.mk hno
  clear h hr hno
  generalize houseCheck l = ck at *
  obtain ⟨f1, f2⟩ := ck
  cases b1 : decide (f2 = 0) <;> cases b2 : decide (n < 0) <;> cases b3 : decide ((l.length : Int) < n)
  all_goals first
    | (exfalso; have h1 := of_decide_eq_true b1; have h2 := of_decide_eq_false b2; have h3 := of_decide_eq_false b3; rcases HNO.out with h | h | h <;> first | exact h h1 | exact h2 h | exact h3 h)
    | skip
  all_goals
    have c1 : (f2 != 0) = !decide (f2 = 0) := rfl
    rw [b1] at c1
    simp only [Bool.not_false, Bool.not_true] at c1
    have c3 : decide (n > (l.length : Int)) = decide ((l.length : Int) < n) := rfl
    rw [b3] at c3
    clear HNO b1
    go_enter Tryz.func19, Tryz.ntmps19
    go_wp2_with (go_at_call 15; refine HCK.out.mono ?_; rintro r w1 ⟨rfl, hu⟩; have HU1 := As.mk hu; clear hu)
    go_ret
    exact ⟨rfl, HU1.out⟩
end Go.Proofs.YtofjodppljnlaaaGreatDoor
namespace Go.Proofs.YtofjodppljnlaaaGreatDoor
open Go.RowKit
set_option linter.unusedVariables false
set_option linter.unusedSimpArgs false
theorem part6 {F : Nat → Prop} {A : Option Addr} {c : Nat} {l : List Tok} {w : World} (hr : tokR.row w F A l) (hb : l.length ≤ 1048576 * 4) (hlc : l.length ≤ c) {i e : Int} (hi : i < 0 ∨ ∃ (j : Nat) (y : Tok), i = j ∧ l[j]? = some y ∧ y.k = 1) (he : ¬ i < 0 → partL l i.toNat = e) :
    ∃ p : Int, (¬ i < 0 → p = e) ∧ Calls Tryz.prog 77 #[.slice A l.length c, .int .i64 i] w fun r w' => r = .returned (.int .i64 p) ∧ Pure w w' := by
  by_cases h0 : i < 0
  · exact ⟨-1, fun h => absurd h0 h, Partner4_out h0⟩
  · rcases hi with h | ⟨j, y, rfl, hy, h1⟩
    · exact absurd h h0
    · refine ⟨partL l j, fun _ => ?_, Partner4_open hr hb hlc hy h1⟩
      have := he h0
      rwa [Int.toNat_natCast] at this
theorem around_kind {l : List Tok} (ok : (houseCheck l).2 = 0) {n : Nat} (hn : n ≤ l.length) : aroundL l n < 0 ∨ ∃ (j : Nat) (y : Tok), aroundL l n = j ∧ l[j]? = some y ∧ y.k = 1 := by
  obtain ⟨top, below, HL, _⟩ := lv_at ok hn
  unfold aroundL
  rcases HL.inv with ⟨h1, _, _⟩ | ⟨j, yt, y, h1, hy, hy1, _⟩
  · exact .inl (by omega)
  · exact .inr ⟨j, y, h1, hy, hy1⟩
set_option maxRecDepth 100000 in
set_option maxHeartbeats 4000000 in
theorem May6_ok {w : World} {cb : Nat} {F : Nat → Prop} {A : Option Addr} {c : Nat} {l : List Tok} {n : Nat} {t : Int} (h : H6 w cb) (hr : tokR.row w F A l) (hlc : l.length ≤ c) (ok : (houseCheck l).2 = 0) (hn : n ≤ l.length) :
    Calls Tryz.prog 20 #[.pointer (some ⟨cb, 0, none⟩), .slice A l.length c, .int .i64 n, .int .i64 t] w fun r w' => r = .returned (.bool (may6 l n t)) ∧ Pure w w' := by
  have hb : l.length ≤ 2048 := ((house_iff l).1 ok).1
  obtain ⟨top, hw, hwd, h1, h2, h3⟩ := lv_word ok hn
  obtain ⟨e, he, hne, hel, hx9⟩ := end_at ok hn
  obtain ⟨top2, below2, hrun, hx8⟩ := at_level ok hn
  obtain ⟨hin, a, ha, hak⟩ := at_in6 hn hrun
  have hkind := around_kind ok hn
  have hpe : ¬ aroundL l n < 0 → partL l (aroundL l n).toNat = (e : Int) := fun h0 => by unfold end6 at he; rwa [if_neg h0] at he
  have hle : aroundL l n < 0 → (l.length : Int) = (e : Int) := fun h0 => by unfold end6 at he; rwa [if_pos h0] at he
  have HCK := As.mk (Check6_calls (c := c) h hr hlc (by omega))
  rw [ok] at HCK
  have HAR := As.mk (fun W (hu : Pure w W) => around4_calls (c := c) (at' := (n : Int)) (Rp.row_pure hr hu) (by omega) hlc)
  have HPT := As.mk (fun W (hu : Pure w W) => part6 (c := c) (Rp.row_pure hr hu) (by omega) hlc hkind hpe)
  have HW1 := As.mk (fun W (hu : Pure w W) => word6_calls (c := c) (a := a) (b := n) (i := aroundL l n) (Rp.row_pure hr hu) (by omega) hn hak ha)
  have HW2 := As.mk (fun W (hu : Pure w W) => word6_calls (c := c) (a := n) (b := e) (i := (n : Int) - 1) (Rp.row_pure hr hu) (by omega) hel hne rfl)
  have HRU := As.mk (fun W (hu : Pure w W) => rule6_calls (c := c) (h.pure hu) (Rp.row_pure hr hu) hin)
  obtain ⟨AW, cW, AL, cL, AE, cE, AG, cG, hcb, c0, c1, c2, c3, c4, c5, _, _, _, hg⟩ := h.cells
  have HG := As.mk hg
  have HOK := As.mk (And.intro house_ok.gl house_ok.gt)
  have HEW := As.mk (rule6_wt l (aroundL l n))
  have HS : As (∀ v, Pure w v → v.cell? ⟨cb, 5, none⟩ = some (.slice AG houseGroups.length cG)) := ⟨fun v hu => (hu.cell hcb (fun h => h)).trans c5⟩
  unfold may6
  rw [he]
  have HLE := As.mk hle
  clear h hr ok hg c0 c1 c2 c3 c4 c5 hwd h3 he hkind hpe hle hin ha hw top hx8 hx9 hrun top2 below2
  generalize houseGroups = gs at *
  generalize (rule6 l (aroundL l n)).2 = ex at *
  generalize wordL l (aroundL l n) n = wd1 at *
  generalize wordL l ((n : Int) - 1) e = wd2 at *
  generalize aroundL l n = ar at *
  generalize (houseCheck l).1 = hp at *
  have hn1 : IntKind.i64.wrap ((n : Int) - 1) = (n : Int) - 1 := IntWalk.i64_in _ (by omega)
  have t1 : decide ((n : Int) < 0) = false := decide_eq_false (by omega)
  have t2 : decide ((n : Int) > (l.length : Int)) = false := decide_eq_false (by omega)
  have t3 : decide ((l.length : Int) < (n : Int)) = false := decide_eq_false (by omega)
  have t4 : decide (l.length < n) = false := decide_eq_false (by omega)
  cases hneg : decide (ar < 0) with
  | false =>
    go_enter Tryz.func20, Tryz.ntmps20
    go_wp2_with (first | (go_at_call 77; obtain ⟨pv, hpv, hpc⟩ := HPT.out _ HU2.out; refine hpc.mono ?_; rintro r w3 ⟨rfl, hu⟩; have HU3 := As.mk (HU2.out.trans hu (fun _ _ h => h)); have HPV := As.mk hpv; clear hu hpc hpv; apply As.out) | (go_at_call 74; refine (HAR.out _ HU1.out).mono ?_; rintro r w2 ⟨rfl, hu⟩; have HU2 := As.mk (HU1.out.trans hu (fun _ _ h => h)); clear hu) | (go_at_call 16; refine HCK.out.mono ?_; rintro r w1 ⟨rfl, hu⟩; have HU1 := As.mk hu; clear hu))
    refine ⟨?_⟩
    obtain rfl : pv = (e : Int) := HPV.out (by have := of_decide_eq_false hneg; omega)
    go_wp2_with (go_at_call 71; refine (HW1.out _ HU3.out).mono ?_; rintro r w4 ⟨v, rfl, ho, hwl, hu⟩; have HO := As.mk ho; have HWL := As.mk hwl; have HU4 := As.mk (HU3.out.trans hu (fun _ _ h => h)); clear ho hu hwl; apply As.out)
    refine ⟨?_⟩
    go_wp2_with (at_builtin; refine Rp.own_append intRS HO.out t [.int .i64 t] rfl (Fp := fun _ => False) (G := fun q => w.heap.size ≤ q) (fun _ h => h.elim) (fun _ h _ => by have := HU3.out.size; omega) (fun q hq => by have := HU4.out.size; omega) rfl _ _ 83 _ 8 rfl Tryz.underlying83 int_infoS rfl (by decide) (by decide) rfl (by simp [Act.eval]) (by have := HWL.out; omega) ?_; intro v1 w5 ho1 hu1; have HO5 := As.mk ho1; have HU5 := As.mk (HU4.out.trans hu1 (fun q hq h => by have := (Rp.own_block_lt HO.out q h).1; have := HU3.out.size; omega)); clear ho1 hu1; apply As.out)
    refine ⟨?_⟩
    have HL5 : As ((wd1 ++ [t]).length ≤ 3000) := ⟨by have := HWL.out; rw [List.length_append, List.length_singleton]; omega⟩
    generalize hwa : wd1 ++ [t] = wa at *
    have HWA := As.mk hwa
    clear hwa
    go_wp2_with (go_at_call 71; refine (HW2.out _ HU5.out).mono ?_; rintro r w6 ⟨v2, rfl, ho, hwl, hu⟩; have HO6 := As.mk (Rp.own_upd HO5.out hu (fun _ _ _ h => h)); have HR6 := As.mk ho; have HWL2 := As.mk hwl; have HU6 := As.mk (HU5.out.trans hu (fun _ _ h => h)); clear ho hu hwl; apply As.out)
    refine ⟨?_⟩
    obtain ⟨A2, cc2, rfl, _, hrow2⟩ := Rp.own_slice HR6.out
    have HROW2 := As.mk hrow2
    have HNB := As.mk (fun q h => (Rp.own_block_lt HO5.out q h).2)
    clear hrow2
    go_wp2_with (at_builtin; refine Rp.append_row intRS (c := cc2) HO6.out (Rp.row'_of (G := fun _ => False) HROW2.out (fun _ _ h => h)) (fun _ h => h.elim) rfl _ _ 83 _ 8 rfl Tryz.underlying83 int_infoS rfl (by decide) (by decide) rfl rfl (by have := HL5.out; have := HWL2.out; omega) ?_; intro v3 w7 ho1 hu1 hat; have HO7 := As.mk ho1; have HU7 := As.mk (HU6.out.trans hu1 (fun q hq h => by have := (Rp.own_block_lt HO6.out q h).1; omega)); clear ho1 hu1 hat; apply As.out)
    refine ⟨?_⟩
    have HL7 : As ((wa ++ wd2).length ≤ 1048576 * 4) := ⟨by have := HL5.out; have := HWL2.out; rw [List.length_append]; omega⟩
    generalize hwb : wa ++ wd2 = wb at *
    have HWB := As.mk hwb
    clear hwb
    obtain ⟨Av, cv, rfl, _, hrow⟩ := Rp.own_slice HO7.out
    have HW := As.mk (Rp.row_pure (Rp.row_here hrow) (Upd.refl (fun _ => False) _).drew)
    clear hrow
    have HUD := As.mk HU7.out.drew
    go_wp2
    refine wp_region_T (P := Tryz.prog) (fun v => v.cell? ⟨cb, 5, none⟩ = some (.slice AG gs.length cG)) 10 (by kernel_rfl) ?_ (fun hHeld => ?_)
    · first | exact HS.out _ HU9.out | exact HS.out _ HU8.out | exact HS.out _ HUD.out
    refine zT 0 ?_
    (try simp only [Act.put, sA, sB, sC])
    refine zT 1 ?_
    (try simp only [Act.put, sA, sB, sC])
    refine zT 2 ?_
    (try simp only [Act.put, sA, sB, sC])
    refine zT 4 ?_
    (try simp only [Act.put, sA, sB, sC])
    refine zT 5 ?_
    (try simp only [Act.put, sA, sB, sC])
    refine zT 6 ?_
    (try simp only [Act.put, sA, sB, sC])
    refine zT 7 ?_
    (try simp only [Act.put, sA, sB, sC])
    refine zT 8 ?_
    (try simp only [Act.put, sA, sB, sC])
    refine oT 3 (fun K hK => ?_)
    go_simp
    (go_at_call 78; refine (HRU.out _ HUD.out).mono ?_; rintro r w8 ⟨⟨A1, c1, rfl, hrw⟩, hu⟩; have HX := As.mk hrw; have HP8 := As.mk hu; have HU8 := As.mk (HUD.out.trans hu (fun _ _ h => h)); clear hrw hu)
    refine hK.out _ _ (fun _ => by first | exact HS.out _ HU9.out | exact HS.out _ HU8.out | exact HS.out _ HUD.out) (fun hHeld => ?_)
    replace hHeld := hHeld (by decide)
    clear hK K
    (try simp only [Act.put, sA, sB, sC])
    refine oT 9 (fun K hK => ?_)
    go_simp
    (go_at_call 70; refine (accepts6_calls HX.out (Rp.row_pure HG.out HU8.out) (Rp.row_pure HW.out HP8.out) HEW.out HOK.out.1 HOK.out.2 HL7.out).mono ?_; rintro r w9 ⟨rfl, hu⟩; have HU9 := As.mk (HU8.out.trans hu (fun _ _ h => h)); clear hu)
    refine hK.out _ _ (fun _ => by first | exact HS.out _ HU9.out | exact HS.out _ HU8.out | exact HS.out _ HUD.out) (fun hHeld => ?_)
    replace hHeld := hHeld (by decide)
    clear hK K
    (try simp only [Act.put, sA, sB, sC])
    refine oT 10 (fun K hK => ?_)
    go_simp
    refine hK.out _ _ (fun h => absurd rfl h) (fun hHeld => ?_)
    clear hK K
    (try simp only [Act.put, sA, sB, sC])
    refine wpAnyT_done (by kernel_rfl) ?_ _
    go_wp2
    go_ret
    exact ⟨by rw [HWA.out, HWB.out]; rfl, HU9.out⟩
  | true =>
    obtain rfl : l.length = e := by have := HLE.out (of_decide_eq_true hneg); omega
    go_enter Tryz.func20, Tryz.ntmps20
    go_wp2_with (first | (go_at_call 77; obtain ⟨pv, hpv, hpc⟩ := HPT.out _ HU2.out; refine hpc.mono ?_; rintro r w3 ⟨rfl, hu⟩; have HU3 := As.mk (HU2.out.trans hu (fun _ _ h => h)); have HPV := As.mk hpv; clear hu hpc hpv; apply As.out) | (go_at_call 74; refine (HAR.out _ HU1.out).mono ?_; rintro r w2 ⟨rfl, hu⟩; have HU2 := As.mk (HU1.out.trans hu (fun _ _ h => h)); clear hu) | (go_at_call 16; refine HCK.out.mono ?_; rintro r w1 ⟨rfl, hu⟩; have HU1 := As.mk hu; clear hu))
    refine ⟨?_⟩
    clear HPV
    go_wp2_with (go_at_call 71; refine (HW1.out _ HU3.out).mono ?_; rintro r w4 ⟨v, rfl, ho, hwl, hu⟩; have HO := As.mk ho; have HWL := As.mk hwl; have HU4 := As.mk (HU3.out.trans hu (fun _ _ h => h)); clear ho hu hwl; apply As.out)
    refine ⟨?_⟩
    go_wp2_with (at_builtin; refine Rp.own_append intRS HO.out t [.int .i64 t] rfl (Fp := fun _ => False) (G := fun q => w.heap.size ≤ q) (fun _ h => h.elim) (fun _ h _ => by have := HU3.out.size; omega) (fun q hq => by have := HU4.out.size; omega) rfl _ _ 83 _ 8 rfl Tryz.underlying83 int_infoS rfl (by decide) (by decide) rfl (by simp [Act.eval]) (by have := HWL.out; omega) ?_; intro v1 w5 ho1 hu1; have HO5 := As.mk ho1; have HU5 := As.mk (HU4.out.trans hu1 (fun q hq h => by have := (Rp.own_block_lt HO.out q h).1; have := HU3.out.size; omega)); clear ho1 hu1; apply As.out)
    refine ⟨?_⟩
    have HL5 : As ((wd1 ++ [t]).length ≤ 3000) := ⟨by have := HWL.out; rw [List.length_append, List.length_singleton]; omega⟩
    generalize hwa : wd1 ++ [t] = wa at *
    have HWA := As.mk hwa
    clear hwa
    go_wp2_with (go_at_call 71; refine (HW2.out _ HU5.out).mono ?_; rintro r w6 ⟨v2, rfl, ho, hwl, hu⟩; have HO6 := As.mk (Rp.own_upd HO5.out hu (fun _ _ _ h => h)); have HR6 := As.mk ho; have HWL2 := As.mk hwl; have HU6 := As.mk (HU5.out.trans hu (fun _ _ h => h)); clear ho hu hwl; apply As.out)
    refine ⟨?_⟩
    obtain ⟨A2, cc2, rfl, _, hrow2⟩ := Rp.own_slice HR6.out
    have HROW2 := As.mk hrow2
    have HNB := As.mk (fun q h => (Rp.own_block_lt HO5.out q h).2)
    clear hrow2
    go_wp2_with (at_builtin; refine Rp.append_row intRS (c := cc2) HO6.out (Rp.row'_of (G := fun _ => False) HROW2.out (fun _ _ h => h)) (fun _ h => h.elim) rfl _ _ 83 _ 8 rfl Tryz.underlying83 int_infoS rfl (by decide) (by decide) rfl rfl (by have := HL5.out; have := HWL2.out; omega) ?_; intro v3 w7 ho1 hu1 hat; have HO7 := As.mk ho1; have HU7 := As.mk (HU6.out.trans hu1 (fun q hq h => by have := (Rp.own_block_lt HO6.out q h).1; omega)); clear ho1 hu1 hat; apply As.out)
    refine ⟨?_⟩
    have HL7 : As ((wa ++ wd2).length ≤ 1048576 * 4) := ⟨by have := HL5.out; have := HWL2.out; rw [List.length_append]; omega⟩
    generalize hwb : wa ++ wd2 = wb at *
    have HWB := As.mk hwb
    clear hwb
    obtain ⟨Av, cv, rfl, _, hrow⟩ := Rp.own_slice HO7.out
    have HW := As.mk (Rp.row_pure (Rp.row_here hrow) (Upd.refl (fun _ => False) _).drew)
    clear hrow
    have HUD := As.mk HU7.out.drew
    go_wp2
    refine wp_region_T (P := Tryz.prog) (fun v => v.cell? ⟨cb, 5, none⟩ = some (.slice AG gs.length cG)) 10 (by kernel_rfl) ?_ (fun hHeld => ?_)
    · first | exact HS.out _ HU9.out | exact HS.out _ HU8.out | exact HS.out _ HUD.out
    refine zT 0 ?_
    (try simp only [Act.put, sA, sB, sC])
    refine zT 1 ?_
    (try simp only [Act.put, sA, sB, sC])
    refine zT 2 ?_
    (try simp only [Act.put, sA, sB, sC])
    refine zT 4 ?_
    (try simp only [Act.put, sA, sB, sC])
    refine zT 5 ?_
    (try simp only [Act.put, sA, sB, sC])
    refine zT 6 ?_
    (try simp only [Act.put, sA, sB, sC])
    refine zT 7 ?_
    (try simp only [Act.put, sA, sB, sC])
    refine zT 8 ?_
    (try simp only [Act.put, sA, sB, sC])
    refine oT 3 (fun K hK => ?_)
    go_simp
    (go_at_call 78; refine (HRU.out _ HUD.out).mono ?_; rintro r w8 ⟨⟨A1, c1, rfl, hrw⟩, hu⟩; have HX := As.mk hrw; have HP8 := As.mk hu; have HU8 := As.mk (HUD.out.trans hu (fun _ _ h => h)); clear hrw hu)
    refine hK.out _ _ (fun _ => by first | exact HS.out _ HU9.out | exact HS.out _ HU8.out | exact HS.out _ HUD.out) (fun hHeld => ?_)
    replace hHeld := hHeld (by decide)
    clear hK K
    (try simp only [Act.put, sA, sB, sC])
    refine oT 9 (fun K hK => ?_)
    go_simp
    (go_at_call 70; refine (accepts6_calls HX.out (Rp.row_pure HG.out HU8.out) (Rp.row_pure HW.out HP8.out) HEW.out HOK.out.1 HOK.out.2 HL7.out).mono ?_; rintro r w9 ⟨rfl, hu⟩; have HU9 := As.mk (HU8.out.trans hu (fun _ _ h => h)); clear hu)
    refine hK.out _ _ (fun _ => by first | exact HS.out _ HU9.out | exact HS.out _ HU8.out | exact HS.out _ HUD.out) (fun hHeld => ?_)
    replace hHeld := hHeld (by decide)
    clear hK K
    (try simp only [Act.put, sA, sB, sC])
    refine oT 10 (fun K hK => ?_)
    go_simp
    refine hK.out _ _ (fun h => absurd rfl h) (fun hHeld => ?_)
    clear hK K
    (try simp only [Act.put, sA, sB, sC])
    refine wpAnyT_done (by kernel_rfl) ?_ _
    go_wp2
    go_ret
    exact ⟨by rw [HWA.out, HWB.out]; rfl, HU9.out⟩
set_option maxRecDepth 100000 in
set_option maxHeartbeats 4000000 in
theorem May6_no {w : World} {cb : Nat} {F : Nat → Prop} {A : Option Addr} {c : Nat} {l : List Tok} {n t : Int} (h : H6 w cb) (hr : tokR.row w F A l) (hlc : l.length ≤ c) (hb : l.length ≤ 1048576 * 4) (hno : (houseCheck l).2 ≠ 0 ∨ n < 0 ∨ (l.length : Int) < n) :
    Calls Tryz.prog 20 #[.pointer (some ⟨cb, 0, none⟩), .slice A l.length c, .int .i64 n, .int .i64 t] w fun r w' => r = .returned (.bool false) ∧ Pure w w' := by
  have HCK := As.mk (Check6_calls (c := c) h hr hlc hb)
  have HNO := As.mk hno
  clear h hr hno
  generalize houseCheck l = ck at *
  obtain ⟨f1, f2⟩ := ck
  cases b1 : decide (f2 = 0) <;> cases b2 : decide (n < 0) <;> cases b3 : decide ((l.length : Int) < n)
  all_goals first
    | (exfalso; have h1 := of_decide_eq_true b1; have h2 := of_decide_eq_false b2; have h3 := of_decide_eq_false b3; rcases HNO.out with h | h | h <;> first | exact h h1 | exact h2 h | exact h3 h)
    | skip
  all_goals
    have c1 : (f2 != 0) = !decide (f2 = 0) := rfl
    rw [b1] at c1
    simp only [Bool.not_false, Bool.not_true] at c1
    have c3 : decide (n > (l.length : Int)) = decide ((l.length : Int) < n) := rfl
    rw [b3] at c3
    clear HNO b1
    go_enter Tryz.func20, Tryz.ntmps20
    go_wp2_with (go_at_call 16; refine HCK.out.mono ?_; rintro r w1 ⟨rfl, hu⟩; have HU1 := As.mk hu; clear hu)
    go_ret
    exact ⟨rfl, HU1.out⟩
end Go.Proofs.YtofjodppljnlaaaGreatDoor
namespace Go.Proofs.YtofjodppljnlaaaGreatDoor
open Go.RowKit
set_option linter.unusedVariables false
set_option linter.unusedSimpArgs false
theorem results_cell_tmp {P : Program} {fn : Func} {p q : Tmp} {ty : TypeId} (h : fn.results = #[.cell p ty, .tmp q]) (tmps : Array Value) (w : World) (g : Nat) (t : TypeId) (cs : Array Value) (fr : Nat × Nat) (d : TypeDesc)
    (hp : tmps.getD p undef = .pointer (some ⟨g, 0, none⟩)) (hg : w.heap[g]? = some (.cells cs t fr))
    (hu : P.underlying ty = some d) (hd : (match d with | .struct _ | .array _ _ => true | _ => false) = true) (hi : (P.info? ty).map (·.size) = some cs.size) :
    (results fn tmps).run P w = .ok (.tuple #[.agg cs, tmps.getD q undef]) w := by
  have hp' : tmps[p]?.getD undef = .pointer (some ⟨g, 0, none⟩) := by simpa using hp
  simp [results, h, hp', asAddr, run_loadVar_row w g t ty cs fr d hg hu hd hi]
theorem set7 {w : World} {rb : Nat} {x0 x1 x2 x3 x4 x5 x6 : Value} {t : TypeId} {fr : Nat × Nat} (h : w.heap[rb]? = some (.cells #[x0, x1, x2, x3, x4, x5, x6] t fr)) (y0 y1 y2 y3 y4 y5 y6 : Value) :
    (((((((w.setCell ⟨rb, 0, none⟩ y0).setCell ⟨rb, 1, none⟩ y1).setCell ⟨rb, 2, none⟩ y2).setCell ⟨rb, 3, none⟩ y3).setCell ⟨rb, 4, none⟩ y4).setCell ⟨rb, 5, none⟩ y5).setCell ⟨rb, 6, none⟩ y6).heap[rb]? = some (.cells #[y0, y1, y2, y3, y4, y5, y6] t fr) := by simp [World.setCell, Array.getElem?_modify, h]
theorem set7_upd (w : World) (rb : Nat) (y0 y1 y2 y3 y4 y5 y6 : Value) : Upd (fun k => k = rb) w (((((((w.setCell ⟨rb, 0, none⟩ y0).setCell ⟨rb, 1, none⟩ y1).setCell ⟨rb, 2, none⟩ y2).setCell ⟨rb, 3, none⟩ y3).setCell ⟨rb, 4, none⟩ y4).setCell ⟨rb, 5, none⟩ y5).setCell ⟨rb, 6, none⟩ y6) :=
  (Upd.refl (fun k => k = rb) w)|>.setCell (p := ⟨rb, 0, none⟩) (fun _ => rfl) _ |>.setCell (p := ⟨rb, 1, none⟩) (fun _ => rfl) _ |>.setCell (p := ⟨rb, 2, none⟩) (fun _ => rfl) _ |>.setCell (p := ⟨rb, 3, none⟩) (fun _ => rfl) _ |>.setCell (p := ⟨rb, 4, none⟩) (fun _ => rfl) _ |>.setCell (p := ⟨rb, 5, none⟩) (fun _ => rfl) _ |>.setCell (p := ⟨rb, 6, none⟩) (fun _ => rfl) _ 
end Go.Proofs.YtofjodppljnlaaaGreatDoor
namespace Go.Proofs.YtofjodppljnlaaaGreatDoor
open Go.RowKit
set_option linter.unusedVariables false
set_option linter.unusedSimpArgs false
def holdE (l : List Tok) (n : Int) : Spec × Bool := if (houseCheck l).2 ≠ 0 ∨ aroundL l n < 0 then (zeroSpec, false) else ((specOf houseRules (tyAt l (aroundL l n))).getD zeroSpec, (specOf houseRules (tyAt l (aroundL l n))).isSome)
theorem around_in6 {l : List Tok} {n : Int} (h : ¬ aroundL l n < 0) : ∃ (j : Nat) (y : Tok), aroundL l n = j ∧ l[j]? = some y ∧ y.k = 1 := by
  obtain ⟨i, y, h1, h2, h3, _⟩ := around_open (l := l) (p := n) (by omega)
  exact ⟨i, y, h1, h2, h3⟩
theorem Spec_any {w : World} {cb : Nat} (h : SchR w cb houseRules houseGroups) (t : Int) : Calls Tryz.prog 73 #[.pointer (some ⟨cb, 0, none⟩), .int .i64 t] w fun r w' => r = .returned (.tuple #[((specOf houseRules t).getD zeroSpec).val, .bool (specOf houseRules t).isSome]) ∧ Pure w w' := by
  have hne : houseRules ≠ [] := house_ok.ne
  have hl : houseRules.length ≤ 1000 := house_ok.len
  by_cases h1 : t < 1
  · rw [spec_low h1]; exact Spec_low h hne hl h1
  · by_cases h2 : 7 < t
    · rw [spec_high h2]; exact Spec_high h hne hl (by omega) (by rw [house_len]; omega)
    · obtain ⟨k, rfl⟩ : ∃ k : Nat, t = ((k + 1 : Nat) : Int) := ⟨(t - 1).toNat, by omega⟩
      obtain ⟨x, e, _, _, hR⟩ := h6_at k (by omega)
      rw [spec_some hR]
      exact Spec_in h hR (by omega) hl
set_option maxRecDepth 100000 in
set_option maxHeartbeats 4000000 in
theorem Holds_not {w : World} {cb : Nat} {F : Nat → Prop} {A : Option Addr} {c : Nat} {l : List Tok} {n : Int} (h : SchR w cb houseRules houseGroups) (hr : tokR.row w F A l) (hb : l.length ≤ 1048576 * 4) (hlc : l.length ≤ c) (hno : (houseCheck l).2 ≠ 0 ∨ aroundL l n < 0) :
    Calls Tryz.prog 17 #[.pointer (some ⟨cb, 0, none⟩), .slice A l.length c, .int .i64 n] w fun r w' => r = .returned (.tuple #[zeroSpec.val, .bool false]) ∧ Pure w w' := by
  have HCK := As.mk (fun (W : World) (hu : Pure w W) => house_check (c := c) (h.pure hu) (Rp.row_pure hr hu) (by omega))
  have HAR := As.mk (fun (W : World) (hu : Pure w W) => around_calls (c := c) (at' := n) (Rp.row_pure hr hu) (by omega) hlc)
  have HBX := As.mk (heap_alloc_new w (.cells #[.string ⟨#[]⟩, .string ⟨#[]⟩, .bool false, .int .i64 0, .int .i64 0, .int .i64 0, .bool false] 34))
  have HNO := As.mk hno
  clear h hr hno
  generalize houseCheck l = ck at *
  generalize aroundL l n = ar at *
  obtain ⟨f1, f2⟩ := ck
  cases b1 : decide (f2 = 0) <;> cases b2 : decide (ar < 0)
  all_goals first
    | (exfalso; have h1 := of_decide_eq_true b1; have h2 := of_decide_eq_false b2; rcases HNO.out with h | h <;> first | exact h h1 | exact h2 h)
    | skip
  all_goals
    have c1 : (f2 != 0) = !decide (f2 = 0) := rfl
    rw [b1] at c1
    simp only [Bool.not_false, Bool.not_true] at c1
    clear HNO b1
    go_enter Tryz.func17, Tryz.ntmps17
    go_wp2_with (first | (go_at_call 15; refine (HCK.out w1 HU1.out).mono ?_; rintro r w2 ⟨rfl, hu⟩; have HU2 := As.mk (HU1.out.trans hu (fun _ _ h => h)); have HP2 := As.mk (HP1.out.trans hu (fun _ _ h => h)); clear hu; apply As.out) | (go_at_call 72; refine (HAR.out _ (Upd.alloc1 _ _ _)).mono ?_; rintro r w1 ⟨rfl, hu⟩; have HU1 := As.mk (Upd.trans (Upd.alloc1 (fun _ => False) _ _) hu (fun _ _ h => h)); have HP1 := As.mk hu; clear hu))
    refine ⟨?_⟩
    have HBW := As.mk ((HP2.out.block w.heap.size (by simp) (fun h => h)).trans HBX.out)
    obtain ⟨⟨k0, k1, k2, k3, k4, k5, k6⟩, ⟨j0, j1, j2, j3, j4, j5, j6⟩, hbl⟩ := cells7_6 HBW.out
    go_wp2
    obtain ⟨W5, hW5⟩ : ∃ W5, W5 = (((((((w2.setCell ⟨w.heap.size, 0, none⟩ (.string ⟨#[]⟩)).setCell ⟨w.heap.size, 1, none⟩ (.string ⟨#[]⟩)).setCell ⟨w.heap.size, 2, none⟩ (.bool false)).setCell ⟨w.heap.size, 3, none⟩ (.int .i64 0)).setCell ⟨w.heap.size, 4, none⟩ (.int .i64 0)).setCell ⟨w.heap.size, 5, none⟩ (.int .i64 0)).setCell ⟨w.heap.size, 6, none⟩ (.bool false)) := ⟨_, rfl⟩
    rw [← hW5]
    have hB5 : W5.heap[w.heap.size]? = some (.cells #[(.string ⟨#[]⟩), (.string ⟨#[]⟩), (.bool false), (.int .i64 0), (.int .i64 0), (.int .i64 0), (.bool false)] 34 (0, 0)) := hW5 ▸ set7 HBW.out (.string ⟨#[]⟩) (.string ⟨#[]⟩) (.bool false) (.int .i64 0) (.int .i64 0) (.int .i64 0) (.bool false)
    have HU5 := As.mk (show Pure w W5 from hW5 ▸ Upd.trans (HU2.out) (set7_upd _ _ (.string ⟨#[]⟩) (.string ⟨#[]⟩) (.bool false) (.int .i64 0) (.int .i64 0) (.int .i64 0) (.bool false)) (fun q hq h => by omega))
    exact bodyPost_ret (results_cell_tmp (P := Tryz.prog) rfl _ _ w.heap.size 34 _ _ _ rfl hB5 Tryz.underlying34 rfl (by kernel_rfl)) rfl ⟨rfl, HU5.out⟩
set_option maxRecDepth 100000 in
set_option maxHeartbeats 4000000 in
theorem Holds_open {w : World} {cb : Nat} {F : Nat → Prop} {A : Option Addr} {c : Nat} {l : List Tok} {n : Int} {j : Nat} {y : Tok} (h : SchR w cb houseRules houseGroups) (hr : tokR.row w F A l) (hb : l.length ≤ 1048576 * 4) (hlc : l.length ≤ c) (ok : (houseCheck l).2 = 0) (ha : aroundL l n = j) (hy : l[j]? = some y) :
    Calls Tryz.prog 17 #[.pointer (some ⟨cb, 0, none⟩), .slice A l.length c, .int .i64 n] w fun r w' => r = .returned (.tuple #[((specOf houseRules y.t).getD zeroSpec).val, .bool (specOf houseRules y.t).isSome]) ∧ Pure w w' := by
  have HCK := As.mk (fun (W : World) (hu : Pure w W) => house_check (c := c) (h.pure hu) (Rp.row_pure hr hu) (by omega))
  rw [ok] at HCK
  have HAR := As.mk (fun (W : World) (hu : Pure w W) => around_calls (c := c) (at' := n) (Rp.row_pure hr hu) (by omega) hlc)
  rw [ha] at HAR
  have HBX := As.mk (heap_alloc_new w (.cells #[.string ⟨#[]⟩, .string ⟨#[]⟩, .bool false, .int .i64 0, .int .i64 0, .int .i64 0, .bool false] 34))
  have HSP := As.mk (fun (W : World) (hu : Pure w W) => Spec_any (h.pure hu) y.t)
  obtain ⟨bt, ot, rfl, _, hbt, q0, q1, q2, q3⟩ := tok_at hr hy
  have hjl : (j : Int) < (l.length : Int) := by have := (List.getElem?_eq_some_iff.1 hy).1; omega
  have t0 : decide ((j : Int) < 0) = false := decide_eq_false (by omega)
  generalize (specOf houseRules y.t).getD zeroSpec = x at *
  generalize (specOf houseRules y.t).isSome = xb at *
  generalize (houseCheck l).1 = f1 at *
  clear h hr ok ha hy q0 q2 q3
  go_enter Tryz.func17, Tryz.ntmps17
  go_wp2_with (first | (go_at_call 15; refine (HCK.out w1 HU1.out).mono ?_; rintro r w2 ⟨rfl, hu⟩; have HU2 := As.mk (HU1.out.trans hu (fun _ _ h => h)); have HP2 := As.mk (HP1.out.trans hu (fun _ _ h => h)); clear hu; apply As.out) | (go_at_call 72; refine (HAR.out _ (Upd.alloc1 _ _ _)).mono ?_; rintro r w1 ⟨rfl, hu⟩; have HU1 := As.mk (Upd.trans (Upd.alloc1 (fun _ => False) _ _) hu (fun _ _ h => h)); have HP1 := As.mk hu; clear hu))
  refine ⟨?_⟩
  have q5 := (HU2.out.cell (o := ot + j * 4 + 1) hbt (fun h => h)).trans q1
  have hbt2 := Nat.lt_of_lt_of_le hbt HU2.out.size
  go_wp2_with (go_at_call 73; refine (HSP.out w2 HU2.out).mono ?_; rintro r w3 ⟨rfl, hp⟩; have HU3 := As.mk (HU2.out.trans hp (fun _ _ h => h)); have HP3 := As.mk (HP2.out.trans hp (fun _ _ h => h)); clear hp; apply As.out)
  refine ⟨?_⟩
  have HBW := As.mk ((HP3.out.block w.heap.size (by simp) (fun h => h)).trans HBX.out)
  obtain ⟨⟨k0, k1, k2, k3, k4, k5, k6⟩, ⟨j0, j1, j2, j3, j4, j5, j6⟩, hbl⟩ := cells7_6 HBW.out
  go_wp2
  obtain ⟨W5, hW5⟩ : ∃ W5, W5 = (((((((w3.setCell ⟨w.heap.size, 0, none⟩ (.string x.name)).setCell ⟨w.heap.size, 1, none⟩ (.string x.expr)).setCell ⟨w.heap.size, 2, none⟩ (.bool x.leaf)).setCell ⟨w.heap.size, 3, none⟩ (.int .i64 x.marks)).setCell ⟨w.heap.size, 4, none⟩ (.int .i64 x.least)).setCell ⟨w.heap.size, 5, none⟩ (.int .i64 x.most)).setCell ⟨w.heap.size, 6, none⟩ (.bool x.lines)) := ⟨_, rfl⟩
  rw [← hW5]
  have hB5 : W5.heap[w.heap.size]? = some (.cells #[(.string x.name), (.string x.expr), (.bool x.leaf), (.int .i64 x.marks), (.int .i64 x.least), (.int .i64 x.most), (.bool x.lines)] 34 (0, 0)) := hW5 ▸ set7 HBW.out (.string x.name) (.string x.expr) (.bool x.leaf) (.int .i64 x.marks) (.int .i64 x.least) (.int .i64 x.most) (.bool x.lines)
  have HU5 := As.mk (show Pure w W5 from hW5 ▸ Upd.trans (HU3.out) (set7_upd _ _ (.string x.name) (.string x.expr) (.bool x.leaf) (.int .i64 x.marks) (.int .i64 x.least) (.int .i64 x.most) (.bool x.lines)) (fun q hq h => by omega))
  exact bodyPost_ret (results_cell_tmp (P := Tryz.prog) rfl _ _ w.heap.size 34 _ _ _ rfl hB5 Tryz.underlying34 rfl (by kernel_rfl)) rfl ⟨rfl, HU5.out⟩
theorem Holds_all {w : World} {cb : Nat} {F : Nat → Prop} {A : Option Addr} {c : Nat} {l : List Tok} {n : Int} (h : SchR w cb houseRules houseGroups) (hr : tokR.row w F A l) (hb : l.length ≤ 1048576 * 4) (hlc : l.length ≤ c) :
    Calls Tryz.prog 17 #[.pointer (some ⟨cb, 0, none⟩), .slice A l.length c, .int .i64 n] w fun r w' => r = .returned (.tuple #[(holdE l n).1.val, .bool (holdE l n).2]) ∧ Pure w w' := by
  unfold holdE
  by_cases hno : (houseCheck l).2 ≠ 0 ∨ aroundL l n < 0
  · rw [if_pos hno]
    exact Holds_not h hr hb hlc hno
  · rw [if_neg hno]
    have ok : (houseCheck l).2 = 0 := Classical.not_not.1 (fun e => hno (.inl e))
    obtain ⟨j, y, ha, hy, _⟩ := around_in6 (fun e => hno (.inr e))
    have e : tyAt l (aroundL l n) = y.t := by unfold tyAt; rw [ha, Int.toNat_natCast, hy]; rfl
    rw [e]
    exact Holds_open h hr hb hlc ok ha hy
set_option maxRecDepth 100000 in
set_option maxHeartbeats 4000000 in
theorem Holds6_no {w : World} {cb : Nat} {F : Nat → Prop} {A : Option Addr} {c : Nat} {l : List Tok} {n : Int} (h : H6 w cb) (hr : tokR.row w F A l) (hb : l.length ≤ 1048576 * 4) (hlc : l.length ≤ c) (hno : (houseCheck l).2 ≠ 0 ∨ aroundL l n < 0) :
    Calls Tryz.prog 18 #[.pointer (some ⟨cb, 0, none⟩), .slice A l.length c, .int .i64 n] w fun r w' => r = .returned (.tuple #[zeroSpec.val, .bool false]) ∧ Pure w w' := by
  have HCK := As.mk (fun (W : World) (hu : Pure w W) => Check6_calls (c := c) (h.pure hu) (Rp.row_pure hr hu) hlc (by omega))
  have HAR := As.mk (fun (W : World) (hu : Pure w W) => around4_calls (c := c) (at' := n) (Rp.row_pure hr hu) (by omega) hlc)
  have HBX := As.mk (heap_alloc_new w (.cells #[.string ⟨#[]⟩, .string ⟨#[]⟩, .bool false, .int .i64 0, .int .i64 0, .int .i64 0, .bool false] 34))
  have HNO := As.mk hno
  clear h hr hno
  generalize houseCheck l = ck at *
  generalize aroundL l n = ar at *
  obtain ⟨f1, f2⟩ := ck
  cases b1 : decide (f2 = 0) <;> cases b2 : decide (ar < 0)
  all_goals first
    | (exfalso; have h1 := of_decide_eq_true b1; have h2 := of_decide_eq_false b2; rcases HNO.out with h | h <;> first | exact h h1 | exact h2 h)
    | skip
  all_goals
    have c1 : (f2 != 0) = !decide (f2 = 0) := rfl
    rw [b1] at c1
    simp only [Bool.not_false, Bool.not_true] at c1
    clear HNO b1
    go_enter Tryz.func18, Tryz.ntmps18
    go_wp2_with (first | (go_at_call 16; refine (HCK.out w1 HU1.out).mono ?_; rintro r w2 ⟨rfl, hu⟩; have HU2 := As.mk (HU1.out.trans hu (fun _ _ h => h)); have HP2 := As.mk (HP1.out.trans hu (fun _ _ h => h)); clear hu; apply As.out) | (go_at_call 74; refine (HAR.out _ (Upd.alloc1 _ _ _)).mono ?_; rintro r w1 ⟨rfl, hu⟩; have HU1 := As.mk (Upd.trans (Upd.alloc1 (fun _ => False) _ _) hu (fun _ _ h => h)); have HP1 := As.mk hu; clear hu))
    refine ⟨?_⟩
    have HBW := As.mk ((HP2.out.block w.heap.size (by simp) (fun h => h)).trans HBX.out)
    obtain ⟨⟨k0, k1, k2, k3, k4, k5, k6⟩, ⟨j0, j1, j2, j3, j4, j5, j6⟩, hbl⟩ := cells7_6 HBW.out
    go_wp2
    obtain ⟨W5, hW5⟩ : ∃ W5, W5 = (((((((w2.setCell ⟨w.heap.size, 0, none⟩ (.string ⟨#[]⟩)).setCell ⟨w.heap.size, 1, none⟩ (.string ⟨#[]⟩)).setCell ⟨w.heap.size, 2, none⟩ (.bool false)).setCell ⟨w.heap.size, 3, none⟩ (.int .i64 0)).setCell ⟨w.heap.size, 4, none⟩ (.int .i64 0)).setCell ⟨w.heap.size, 5, none⟩ (.int .i64 0)).setCell ⟨w.heap.size, 6, none⟩ (.bool false)) := ⟨_, rfl⟩
    rw [← hW5]
    have hB5 : W5.heap[w.heap.size]? = some (.cells #[(.string ⟨#[]⟩), (.string ⟨#[]⟩), (.bool false), (.int .i64 0), (.int .i64 0), (.int .i64 0), (.bool false)] 34 (0, 0)) := hW5 ▸ set7 HBW.out (.string ⟨#[]⟩) (.string ⟨#[]⟩) (.bool false) (.int .i64 0) (.int .i64 0) (.int .i64 0) (.bool false)
    have HU5 := As.mk (show Pure w W5 from hW5 ▸ Upd.trans (HU2.out) (set7_upd _ _ (.string ⟨#[]⟩) (.string ⟨#[]⟩) (.bool false) (.int .i64 0) (.int .i64 0) (.int .i64 0) (.bool false)) (fun q hq h => by omega))
    exact bodyPost_ret (results_cell_tmp (P := Tryz.prog) rfl _ _ w.heap.size 34 _ _ _ rfl hB5 Tryz.underlying34 rfl (by kernel_rfl)) rfl ⟨rfl, HU5.out⟩
set_option maxRecDepth 100000 in
set_option maxHeartbeats 4000000 in
theorem Holds6_open {w : World} {cb : Nat} {F : Nat → Prop} {A : Option Addr} {c : Nat} {l : List Tok} {n : Int} {j : Nat} {y : Tok} (h : H6 w cb) (hr : tokR.row w F A l) (hb : l.length ≤ 1048576 * 4) (hlc : l.length ≤ c) (ok : (houseCheck l).2 = 0) (ha : aroundL l n = j) (hy : l[j]? = some y) :
    Calls Tryz.prog 18 #[.pointer (some ⟨cb, 0, none⟩), .slice A l.length c, .int .i64 n] w fun r w' => r = .returned (.tuple #[((specOf houseRules y.t).getD zeroSpec).val, .bool (specOf houseRules y.t).isSome]) ∧ Pure w w' := by
  have HCK := As.mk (fun (W : World) (hu : Pure w W) => Check6_calls (c := c) (h.pure hu) (Rp.row_pure hr hu) hlc (by omega))
  rw [ok] at HCK
  have HAR := As.mk (fun (W : World) (hu : Pure w W) => around4_calls (c := c) (at' := n) (Rp.row_pure hr hu) (by omega) hlc)
  rw [ha] at HAR
  have HBX := As.mk (heap_alloc_new w (.cells #[.string ⟨#[]⟩, .string ⟨#[]⟩, .bool false, .int .i64 0, .int .i64 0, .int .i64 0, .bool false] 34))
  have HSP := As.mk (fun (W : World) (hu : Pure w W) => Spec6_calls (h.pure hu) y.t)
  obtain ⟨bt, ot, rfl, _, hbt, q0, q1, q2, q3⟩ := tok_at hr hy
  have hjl : (j : Int) < (l.length : Int) := by have := (List.getElem?_eq_some_iff.1 hy).1; omega
  have t0 : decide ((j : Int) < 0) = false := decide_eq_false (by omega)
  generalize (specOf houseRules y.t).getD zeroSpec = x at *
  generalize (specOf houseRules y.t).isSome = xb at *
  generalize (houseCheck l).1 = f1 at *
  clear h hr ok ha hy q0 q2 q3
  go_enter Tryz.func18, Tryz.ntmps18
  go_wp2_with (first | (go_at_call 16; refine (HCK.out w1 HU1.out).mono ?_; rintro r w2 ⟨rfl, hu⟩; have HU2 := As.mk (HU1.out.trans hu (fun _ _ h => h)); have HP2 := As.mk (HP1.out.trans hu (fun _ _ h => h)); clear hu; apply As.out) | (go_at_call 74; refine (HAR.out _ (Upd.alloc1 _ _ _)).mono ?_; rintro r w1 ⟨rfl, hu⟩; have HU1 := As.mk (Upd.trans (Upd.alloc1 (fun _ => False) _ _) hu (fun _ _ h => h)); have HP1 := As.mk hu; clear hu))
  refine ⟨?_⟩
  have q5 := (HU2.out.cell (o := ot + j * 4 + 1) hbt (fun h => h)).trans q1
  have hbt2 := Nat.lt_of_lt_of_le hbt HU2.out.size
  go_wp2_with (go_at_call 75; refine (HSP.out w2 HU2.out).mono ?_; rintro r w3 ⟨rfl, hp⟩; have HU3 := As.mk (HU2.out.trans hp (fun _ _ h => h)); have HP3 := As.mk (HP2.out.trans hp (fun _ _ h => h)); clear hp; apply As.out)
  refine ⟨?_⟩
  have HBW := As.mk ((HP3.out.block w.heap.size (by simp) (fun h => h)).trans HBX.out)
  obtain ⟨⟨k0, k1, k2, k3, k4, k5, k6⟩, ⟨j0, j1, j2, j3, j4, j5, j6⟩, hbl⟩ := cells7_6 HBW.out
  go_wp2
  obtain ⟨W5, hW5⟩ : ∃ W5, W5 = (((((((w3.setCell ⟨w.heap.size, 0, none⟩ (.string x.name)).setCell ⟨w.heap.size, 1, none⟩ (.string x.expr)).setCell ⟨w.heap.size, 2, none⟩ (.bool x.leaf)).setCell ⟨w.heap.size, 3, none⟩ (.int .i64 x.marks)).setCell ⟨w.heap.size, 4, none⟩ (.int .i64 x.least)).setCell ⟨w.heap.size, 5, none⟩ (.int .i64 x.most)).setCell ⟨w.heap.size, 6, none⟩ (.bool x.lines)) := ⟨_, rfl⟩
  rw [← hW5]
  have hB5 : W5.heap[w.heap.size]? = some (.cells #[(.string x.name), (.string x.expr), (.bool x.leaf), (.int .i64 x.marks), (.int .i64 x.least), (.int .i64 x.most), (.bool x.lines)] 34 (0, 0)) := hW5 ▸ set7 HBW.out (.string x.name) (.string x.expr) (.bool x.leaf) (.int .i64 x.marks) (.int .i64 x.least) (.int .i64 x.most) (.bool x.lines)
  have HU5 := As.mk (show Pure w W5 from hW5 ▸ Upd.trans (HU3.out) (set7_upd _ _ (.string x.name) (.string x.expr) (.bool x.leaf) (.int .i64 x.marks) (.int .i64 x.least) (.int .i64 x.most) (.bool x.lines)) (fun q hq h => by omega))
  exact bodyPost_ret (results_cell_tmp (P := Tryz.prog) rfl _ _ w.heap.size 34 _ _ _ rfl hB5 Tryz.underlying34 rfl (by kernel_rfl)) rfl ⟨rfl, HU5.out⟩
theorem Holds6_any {w : World} {cb : Nat} {F : Nat → Prop} {A : Option Addr} {c : Nat} {l : List Tok} {n : Int} (h : H6 w cb) (hr : tokR.row w F A l) (hb : l.length ≤ 1048576 * 4) (hlc : l.length ≤ c) :
    Calls Tryz.prog 18 #[.pointer (some ⟨cb, 0, none⟩), .slice A l.length c, .int .i64 n] w fun r w' => r = .returned (.tuple #[(holdE l n).1.val, .bool (holdE l n).2]) ∧ Pure w w' := by
  unfold holdE
  by_cases hno : (houseCheck l).2 ≠ 0 ∨ aroundL l n < 0
  · rw [if_pos hno]
    exact Holds6_no h hr hb hlc hno
  · rw [if_neg hno]
    have ok : (houseCheck l).2 = 0 := Classical.not_not.1 (fun e => hno (.inl e))
    obtain ⟨j, y, ha, hy, _⟩ := around_in6 (fun e => hno (.inr e))
    have e : tyAt l (aroundL l n) = y.t := by unfold tyAt; rw [ha, Int.toNat_natCast, hy]; rfl
    rw [e]
    exact Holds6_open h hr hb hlc ok ha hy
def mayE (l : List Tok) (n t : Int) : Bool := if (houseCheck l).2 ≠ 0 ∨ n < 0 ∨ (l.length : Int) < n then false else may6 l n t
theorem may_not {l : List Tok} {n : Int} (h : ¬ ((houseCheck l).2 ≠ 0 ∨ n < 0 ∨ (l.length : Int) < n)) : (houseCheck l).2 = 0 ∧ ∃ k : Nat, n = k ∧ k ≤ l.length :=
  ⟨Classical.not_not.1 (fun e => h (.inl e)), n.toNat, by have : ¬ n < 0 := fun e => h (.inr (.inl e)); omega, by have : ¬ (l.length : Int) < n := fun e => h (.inr (.inr e)); omega⟩
theorem May_all {w : World} {cb : Nat} {F : Nat → Prop} {A : Option Addr} {c : Nat} {l : List Tok} {n t : Int} (h : SchR w cb houseRules houseGroups) (hr : tokR.row w F A l) (hb : l.length ≤ 2047) (hlc : l.length ≤ c) :
    Calls Tryz.prog 19 #[.pointer (some ⟨cb, 0, none⟩), .slice A l.length c, .int .i64 n, .int .i64 t] w fun r w' => r = .returned (.bool (mayE l n t)) ∧ Pure w w' := by
  unfold mayE
  by_cases hno : (houseCheck l).2 ≠ 0 ∨ n < 0 ∨ (l.length : Int) < n
  · rw [if_pos hno]
    exact May_no h hr (by omega) hno
  · rw [if_neg hno]
    obtain ⟨ok, k, rfl, hk⟩ := may_not hno
    obtain ⟨R, hP⟩ := at_place2 ok hb hk
    rw [← may_same ok hk hP]
    exact May_ok h hr (by omega) hlc ok hk hP
theorem May6_all {w : World} {cb : Nat} {F : Nat → Prop} {A : Option Addr} {c : Nat} {l : List Tok} {n t : Int} (h : H6 w cb) (hr : tokR.row w F A l) (hb : l.length ≤ 2047) (hlc : l.length ≤ c) :
    Calls Tryz.prog 20 #[.pointer (some ⟨cb, 0, none⟩), .slice A l.length c, .int .i64 n, .int .i64 t] w fun r w' => r = .returned (.bool (mayE l n t)) ∧ Pure w w' := by
  unfold mayE
  by_cases hno : (houseCheck l).2 ≠ 0 ∨ n < 0 ∨ (l.length : Int) < n
  · rw [if_pos hno]
    exact May6_no h hr hlc (by omega) hno
  · rw [if_neg hno]
    obtain ⟨ok, k, rfl, hk⟩ := may_not hno
    exact May6_ok h hr hlc ok hk
end Go.Proofs.YtofjodppljnlaaaGreatDoor
namespace Go.Proofs.YtofjodppljnlaaaGreatDoor
open Go.RowKit
set_option linter.unusedVariables false
set_option linter.unusedSimpArgs false
/-- A text that is read, up to a place. -/
def PB (w : World) (tb : Nat) (s : ByteArray) (k : Nat) : Prop := w.heap[tb]? = some (.cells #[.string s, .int .i64 k, .bool false] 262 (0, 0))
theorem PB.pure {w w1 : World} {tb : Nat} {s : ByteArray} {k : Nat} (h : PB w tb s k) (hu : Pure w w1) : PB w1 tb s k := (hu.block _ (Array.getElem?_eq_some_iff.1 h).1 (fun h => h)).trans h
theorem PB.cells {w : World} {tb : Nat} {s : ByteArray} {k : Nat} (h : PB w tb s k) : (w.cell? ⟨tb, 0, none⟩ = some (.string s) ∧ w.cell? ⟨tb, 1, none⟩ = some (.int .i64 k) ∧ w.cell? ⟨tb, 2, none⟩ = some (.bool false)) ∧ w.frozen? ⟨tb, 1, none⟩ = false ∧ tb < w.heap.size := by
  have h' : w.heap[tb]? = some (.cells #[.string s, .int .i64 k, .bool false] 262 (0, 0)) := h
  refine ⟨⟨?_, ?_, ?_⟩, ?_, (Array.getElem?_eq_some_iff.1 h).1⟩
  · unfold World.cell?; simp only [h']; rfl
  · unfold World.cell?; simp only [h']; rfl
  · unfold World.cell?; simp only [h']; rfl
  · simp [World.frozen?, h']
theorem PB.set {w : World} {tb : Nat} {s : ByteArray} {k : Nat} (h : PB w tb s k) (m : Nat) : PB (w.setCell ⟨tb, 1, none⟩ (.int .i64 m)) tb s m := by
  have h' : w.heap[tb]? = some (.cells #[.string s, .int .i64 k, .bool false] 262 (0, 0)) := h
  unfold PB
  simp [World.setCell, Array.getElem?_modify, h']
set_option maxRecDepth 100000 in
set_option maxHeartbeats 4000000 in
theorem peek_end {w : World} {tb : Nat} {s : ByteArray} (h : PB w tb s s.size) (hs : s.size ≤ 1000) :
    Calls Tryz.prog 191 #[.pointer (some ⟨tb, 0, none⟩)] w fun r w' => r = .returned (.int .u8 0) ∧ Pure w w' := by
  have HT := As.mk h
  have hlt : ¬ ((s.size : Int) < (s.size : Int)) := by omega
  have hlt2 : decide (s.size < s.size) = false := by simp
  have heq2 : (s.size == s.size) = true := by simp
  clear h
  go_enter Tryz.func191, Tryz.ntmps191
  go_wp2
  go_loopg [] 0 (fun g wr => As (wr = w))
  case atStart => exact ⟨rfl⟩
  case round =>
    obtain rfl := hrel.out
    obtain ⟨⟨c0, c1, c2⟩, f1, htb⟩ := HT.out.cells
    have c0d : wr.drew.cell? ⟨tb, 0, none⟩ = some (.string s) := c0
    have c1d : wr.drew.cell? ⟨tb, 1, none⟩ = some (.int .i64 s.size) := c1
    have c2d : wr.drew.cell? ⟨tb, 2, none⟩ = some (.bool false) := c2
    go_wp2
    refine wp_region_held_drew (S := (fun v => v.cell? ⟨tb, 0, none⟩ = some (.string s) ∧ v.cell? ⟨tb, 1, none⟩ = some (.int .i64 s.size) ∧ v.cell? ⟨tb, 2, none⟩ = some (.bool false))) (by kernel_rfl) ?_ (fun hHeld => ?_)
    · exact ⟨c0d, c1d, c2d⟩
    refine zH 0 ?_
    (try simp only [Act.put, sA, sB, sC])
    refine zH 1 ?_
    (try simp only [Act.put, sA, sB, sC])
    refine zH 2 ?_
    (try simp only [Act.put, sA, sB, sC])
    refine zH 3 ?_
    (try simp only [Act.put, sA, sB, sC])
    refine zH 4 ?_
    (try simp only [Act.put, sA, sB, sC])
    refine zH 5 ?_
    (try simp only [Act.put, sA, sB, sC])
    refine zH 6 ?_
    (try simp only [Act.put, sA, sB, sC])
    refine zH 7 ?_
    (try simp only [Act.put, sA, sB, sC])
    refine zH 8 ?_
    (try simp only [Act.put, sA, sB, sC])
    refine zH 9 ?_
    (try simp only [Act.put, sA, sB, sC])
    refine zH 10 ?_
    (try simp only [Act.put, sA, sB, sC])
    refine wpAnyH_take (i := 11) (oi := { dst := (some 14), op := (Go.Op.move (Go.Operand.tmp 0)), type := 260, pos := "ref.go:100", after := #[{ on := 10, ground := Go.Ground.guard }], guard := (some (10, true)) }) (v := undef) rfl (by kernel_rfl) (by kernel_rfl) (by kernel_rfl) (fun _ _ _ h => h) (Or.inr ⟨by rfl, rfl⟩) (by assumption) ?_
    (try simp only [Act.put, sA, sB, sC])
    refine wpAnyH_take (i := 12) (oi := { dst := (some 15), op := (Go.Op.nilCheck (Go.Operand.tmp 14)), type := 0, pos := "ref.go:100", after := #[{ on := 11, ground := Go.Ground.data }, { on := 10, ground := Go.Ground.guard }], guard := (some (10, true)) }) (v := undef) rfl (by kernel_rfl) (by kernel_rfl) (by kernel_rfl) (fun _ _ _ h => h) (Or.inr ⟨by rfl, rfl⟩) (by assumption) ?_
    (try simp only [Act.put, sA, sB, sC])
    refine wpAnyH_take (i := 13) (oi := { dst := (some 16), op := (Go.Op.fieldAddr 262 (Go.Operand.tmp 15) 0), type := 0, pos := "ref.go:100", after := #[{ on := 12, ground := Go.Ground.data }, { on := 10, ground := Go.Ground.guard }], guard := (some (10, true)) }) (v := undef) rfl (by kernel_rfl) (by kernel_rfl) (by kernel_rfl) (fun _ _ _ h => h) (Or.inr ⟨by rfl, rfl⟩) (by assumption) ?_
    (try simp only [Act.put, sA, sB, sC])
    refine wpAnyH_take (i := 14) (oi := { dst := (some 17), op := (Go.Op.load 9 (Go.Operand.tmp 16)), type := 9, pos := "ref.go:100", after := #[{ on := 13, ground := Go.Ground.data }, { on := 10, ground := Go.Ground.guard }], guard := (some (10, true)) }) (v := undef) rfl (by kernel_rfl) (by kernel_rfl) (by kernel_rfl) (fun _ _ _ h => h) (Or.inr ⟨by rfl, rfl⟩) (by assumption) ?_
    (try simp only [Act.put, sA, sB, sC])
    refine wpAnyH_take (i := 15) (oi := { dst := (some 18), op := (Go.Op.move (Go.Operand.tmp 0)), type := 260, pos := "ref.go:100", after := #[{ on := 10, ground := Go.Ground.guard }], guard := (some (10, true)) }) (v := undef) rfl (by kernel_rfl) (by kernel_rfl) (by kernel_rfl) (fun _ _ _ h => h) (Or.inr ⟨by rfl, rfl⟩) (by assumption) ?_
    (try simp only [Act.put, sA, sB, sC])
    refine wpAnyH_take (i := 16) (oi := { dst := (some 19), op := (Go.Op.nilCheck (Go.Operand.tmp 18)), type := 0, pos := "ref.go:100", after := #[{ on := 15, ground := Go.Ground.data }, { on := 10, ground := Go.Ground.guard }], guard := (some (10, true)) }) (v := undef) rfl (by kernel_rfl) (by kernel_rfl) (by kernel_rfl) (fun _ _ _ h => h) (Or.inr ⟨by rfl, rfl⟩) (by assumption) ?_
    (try simp only [Act.put, sA, sB, sC])
    refine wpAnyH_take (i := 17) (oi := { dst := (some 20), op := (Go.Op.fieldAddr 262 (Go.Operand.tmp 19) 1), type := 0, pos := "ref.go:100", after := #[{ on := 16, ground := Go.Ground.data }, { on := 10, ground := Go.Ground.guard }], guard := (some (10, true)) }) (v := undef) rfl (by kernel_rfl) (by kernel_rfl) (by kernel_rfl) (fun _ _ _ h => h) (Or.inr ⟨by rfl, rfl⟩) (by assumption) ?_
    (try simp only [Act.put, sA, sB, sC])
    refine wpAnyH_take (i := 18) (oi := { dst := (some 21), op := (Go.Op.load 3 (Go.Operand.tmp 20)), type := 3, pos := "ref.go:100", after := #[{ on := 17, ground := Go.Ground.data }, { on := 10, ground := Go.Ground.guard }], guard := (some (10, true)) }) (v := undef) rfl (by kernel_rfl) (by kernel_rfl) (by kernel_rfl) (fun _ _ _ h => h) (Or.inr ⟨by rfl, rfl⟩) (by assumption) ?_
    (try simp only [Act.put, sA, sB, sC])
    refine wpAnyH_take (i := 19) (oi := { dst := (some 22), op := (Go.Op.index 9 (Go.Operand.tmp 17) (Go.Operand.tmp 21)), type := 5, pos := "ref.go:100", after := #[{ on := 14, ground := Go.Ground.data }, { on := 18, ground := Go.Ground.data }, { on := 10, ground := Go.Ground.guard }], guard := (some (10, true)) }) (v := undef) rfl (by kernel_rfl) (by kernel_rfl) (by kernel_rfl) (fun _ _ _ h => h) (Or.inr ⟨by rfl, rfl⟩) (by assumption) ?_
    (try simp only [Act.put, sA, sB, sC])
    refine wpAnyH_take (i := 20) (oi := { dst := (some 23), op := (Go.Op.binOp Go.BinOp.eql 5 (Go.Operand.tmp 22) (Go.Operand.const (Go.Value.int Go.IntKind.u8 32)) 5), type := 4, pos := "ref.go:100", after := #[{ on := 19, ground := Go.Ground.data }, { on := 10, ground := Go.Ground.guard }], guard := (some (10, true)) }) (v := undef) rfl (by kernel_rfl) (by kernel_rfl) (by kernel_rfl) (fun _ _ _ h => h) (Or.inr ⟨by rfl, rfl⟩) (by assumption) ?_
    (try simp only [Act.put, sA, sB, sC])
    refine zH 21 ?_
    (try simp only [Act.put, sA, sB, sC])
    refine wpAnyH_done (by kernel_rfl) ?_ _
    go_wp2
    refine wp_region_held_drew (S := (fun v => v.cell? ⟨tb, 0, none⟩ = some (.string s) ∧ v.cell? ⟨tb, 1, none⟩ = some (.int .i64 s.size) ∧ v.cell? ⟨tb, 2, none⟩ = some (.bool false))) (by kernel_rfl) ?_ (fun hHeld => ?_)
    · exact ⟨c0d, c1d, c2d⟩
    refine zH 0 ?_
    (try simp only [Act.put, sA, sB, sC])
    refine zH 1 ?_
    (try simp only [Act.put, sA, sB, sC])
    refine zH 2 ?_
    (try simp only [Act.put, sA, sB, sC])
    refine zH 3 ?_
    (try simp only [Act.put, sA, sB, sC])
    refine zH 4 ?_
    (try simp only [Act.put, sA, sB, sC])
    refine zH 5 ?_
    (try simp only [Act.put, sA, sB, sC])
    refine zH 6 ?_
    (try simp only [Act.put, sA, sB, sC])
    refine zH 7 ?_
    (try simp only [Act.put, sA, sB, sC])
    refine zH 8 ?_
    (try simp only [Act.put, sA, sB, sC])
    refine zH 9 ?_
    (try simp only [Act.put, sA, sB, sC])
    refine zH 10 ?_
    (try simp only [Act.put, sA, sB, sC])
    refine zH 11 ?_
    (try simp only [Act.put, sA, sB, sC])
    refine zH 12 ?_
    (try simp only [Act.put, sA, sB, sC])
    refine zH 13 ?_
    (try simp only [Act.put, sA, sB, sC])
    refine zH 14 ?_
    (try simp only [Act.put, sA, sB, sC])
    refine zH 15 ?_
    (try simp only [Act.put, sA, sB, sC])
    refine wpAnyH_done (by kernel_rfl) ?_ _
    go_wp2
    go_ret
    exact ⟨rfl, ((Upd.refl _ _).drew).drew⟩
set_option maxRecDepth 100000 in
set_option maxHeartbeats 4000000 in
theorem peek_at {w : World} {tb k : Nat} {s : ByteArray} (h : PB w tb s k) (hk : k < s.size) (h32 : (s[k] == 32) = false) (h0 : 1 ≤ s[k].toNat) (hs : s.size ≤ 1000) :
    Calls Tryz.prog 191 #[.pointer (some ⟨tb, 0, none⟩)] w fun r w' => r = .returned (.int .u8 s[k].toNat) ∧ Pure w w' := by
  have HT := As.mk h
  have hlt : ((k : Int) < (s.size : Int)) := by omega
  have hlt2 : decide (k < s.size) = true := by simp; exact hk
  have hlt3 : decide ((k : Int) < (s.size : Int)) = true := by simp; omega
  have heq2 : (k == s.size) = false := by simp; omega
  have heq3 : ((k : Int) == (s.size : Int)) = false := by simp; omega
  have hb1 : ((s[k].toNat : Int) == 32) = false := by
    have : s[k] ≠ 32 := by simpa using h32
    simp
    intro h
    apply this
    apply UInt8.toNat_inj.1
    have : s[k].toNat = 32 := by omega
    rw [this]; rfl
  have hb2 : (s[k].toNat == 32) = false := by
    simp at hb1 ⊢
    omega
  have hmx : max (s[k].toNat : Int) 1 = (s[k].toNat : Int) := by omega
  clear h
  go_enter Tryz.func191, Tryz.ntmps191
  go_wp2
  go_loopg [] 0 (fun g wr => As (wr = w))
  case atStart => exact ⟨rfl⟩
  case round =>
    obtain rfl := hrel.out
    obtain ⟨⟨c0, c1, c2⟩, f1, htb⟩ := HT.out.cells
    have c0d : wr.drew.cell? ⟨tb, 0, none⟩ = some (.string s) := c0
    have c1d : wr.drew.cell? ⟨tb, 1, none⟩ = some (.int .i64 k) := c1
    have c2d : wr.drew.cell? ⟨tb, 2, none⟩ = some (.bool false) := c2
    go_wp2
    refine wp_region_held_drew (S := (fun v => v.cell? ⟨tb, 0, none⟩ = some (.string s) ∧ v.cell? ⟨tb, 1, none⟩ = some (.int .i64 k) ∧ v.cell? ⟨tb, 2, none⟩ = some (.bool false))) (by kernel_rfl) ?_ (fun hHeld => ?_)
    · exact ⟨c0d, c1d, c2d⟩
    refine zH 0 ?_
    (try simp only [Act.put, sA, sB, sC])
    refine zH 1 ?_
    (try simp only [Act.put, sA, sB, sC])
    refine zH 2 ?_
    (try simp only [Act.put, sA, sB, sC])
    refine zH 3 ?_
    (try simp only [Act.put, sA, sB, sC])
    refine zH 4 ?_
    (try simp only [Act.put, sA, sB, sC])
    refine zH 5 ?_
    (try simp only [Act.put, sA, sB, sC])
    refine zH 6 ?_
    (try simp only [Act.put, sA, sB, sC])
    refine zH 7 ?_
    (try simp only [Act.put, sA, sB, sC])
    refine zH 8 ?_
    (try simp only [Act.put, sA, sB, sC])
    refine zH 9 ?_
    (try simp only [Act.put, sA, sB, sC])
    refine zH 10 ?_
    (try simp only [Act.put, sA, sB, sC])
    refine zH 11 ?_
    (try simp only [Act.put, sA, sB, sC])
    refine zH 12 ?_
    (try simp only [Act.put, sA, sB, sC])
    refine zH 13 ?_
    (try simp only [Act.put, sA, sB, sC])
    refine zH 14 ?_
    (try simp only [Act.put, sA, sB, sC])
    refine zH 15 ?_
    (try simp only [Act.put, sA, sB, sC])
    refine zH 16 ?_
    (try simp only [Act.put, sA, sB, sC])
    refine zH 17 ?_
    (try simp only [Act.put, sA, sB, sC])
    refine zH 18 ?_
    (try simp only [Act.put, sA, sB, sC])
    refine zH 19 ?_
    (try simp only [Act.put, sA, sB, sC])
    refine zH 20 ?_
    (try simp only [Act.put, sA, sB, sC])
    refine zH 21 ?_
    (try simp only [Act.put, sA, sB, sC])
    refine wpAnyH_done (by kernel_rfl) ?_ _
    go_wp2
    refine wp_region_held_drew (S := (fun v => v.cell? ⟨tb, 0, none⟩ = some (.string s) ∧ v.cell? ⟨tb, 1, none⟩ = some (.int .i64 k) ∧ v.cell? ⟨tb, 2, none⟩ = some (.bool false))) (by kernel_rfl) ?_ (fun hHeld => ?_)
    · exact ⟨c0d, c1d, c2d⟩
    refine zH 0 ?_
    (try simp only [Act.put, sA, sB, sC])
    refine zH 1 ?_
    (try simp only [Act.put, sA, sB, sC])
    refine zH 2 ?_
    (try simp only [Act.put, sA, sB, sC])
    refine zH 3 ?_
    (try simp only [Act.put, sA, sB, sC])
    refine zH 4 ?_
    (try simp only [Act.put, sA, sB, sC])
    refine zH 5 ?_
    (try simp only [Act.put, sA, sB, sC])
    refine zH 6 ?_
    (try simp only [Act.put, sA, sB, sC])
    refine zH 7 ?_
    (try simp only [Act.put, sA, sB, sC])
    refine zH 8 ?_
    (try simp only [Act.put, sA, sB, sC])
    refine zH 9 ?_
    (try simp only [Act.put, sA, sB, sC])
    refine zH 10 ?_
    (try simp only [Act.put, sA, sB, sC])
    refine zH 11 ?_
    (try simp only [Act.put, sA, sB, sC])
    refine zH 12 ?_
    (try simp only [Act.put, sA, sB, sC])
    refine zH 13 ?_
    (try simp only [Act.put, sA, sB, sC])
    refine zH 14 ?_
    (try simp only [Act.put, sA, sB, sC])
    refine zH 15 ?_
    (try simp only [Act.put, sA, sB, sC])
    refine wpAnyH_done (by kernel_rfl) ?_ _
    go_wp2
    refine wp_region_held_drew (S := (fun v => v.cell? ⟨tb, 0, none⟩ = some (.string s) ∧ v.cell? ⟨tb, 1, none⟩ = some (.int .i64 k) ∧ v.cell? ⟨tb, 2, none⟩ = some (.bool false))) (by kernel_rfl) ?_ (fun hHeld => ?_)
    · exact ⟨c0d, c1d, c2d⟩
    refine zH 0 ?_
    (try simp only [Act.put, sA, sB, sC])
    refine zH 1 ?_
    (try simp only [Act.put, sA, sB, sC])
    refine zH 2 ?_
    (try simp only [Act.put, sA, sB, sC])
    refine zH 3 ?_
    (try simp only [Act.put, sA, sB, sC])
    refine zH 4 ?_
    (try simp only [Act.put, sA, sB, sC])
    refine zH 5 ?_
    (try simp only [Act.put, sA, sB, sC])
    refine zH 6 ?_
    (try simp only [Act.put, sA, sB, sC])
    refine zH 7 ?_
    (try simp only [Act.put, sA, sB, sC])
    refine zH 8 ?_
    (try simp only [Act.put, sA, sB, sC])
    refine zH 9 ?_
    (try simp only [Act.put, sA, sB, sC])
    refine zH 10 ?_
    (try simp only [Act.put, sA, sB, sC])
    refine wpAnyH_done (by kernel_rfl) ?_ _
    go_wp2
    go_ret
    exact ⟨rfl, (((Upd.refl _ _).drew).drew).drew⟩
/-- The letters of a name with a sign. -/
theorem name_letters {s : ByteArray} {m : Nat} {kk : Int} (hn : NameSign s m kk) (i : Nat) (hi : i < m) (h : i < s.size) : 97 ≤ (s[i]'h).toNat ∧ (s[i]'h).toNat ≤ 122 := by
  have h1 := hn.nm.in_ i (Nat.zero_le _) hi
  unfold nameB at h1
  rw [Bool.and_eq_true, List.all_eq_true] at h1
  have h2 := h1.1 (s[i]'h) (by
    have e : (s.extract i (i + 1)).data = s.data.extract i (i + 1) := by
      rw [ByteArray.data_extract]
    have h' : i < s.data.size := h
    rw [e]
    have : (s.data.extract i (i + 1)).toList = [s.data[i]] := by
      rw [Array.toList_extract]
      simp only [List.extract, Nat.add_sub_cancel_left]
      rw [List.drop_eq_getElem_cons (by simpa using h')]
      simp
    rw [this]
    simp
    rfl)
  simpa [lettB] using h2
end Go.Proofs.YtofjodppljnlaaaGreatDoor
namespace Go.Proofs.YtofjodppljnlaaaGreatDoor
open Go.RowKit
set_option linter.unusedVariables false
set_option linter.unusedSimpArgs false
theorem part_step6 {w2 : World} {tb eb m : Nat} {s : ByteArray} {kk : Int} {x0 x1 x2 : Value} (hT : PB w2 tb s m) (he : w2.heap[eb]? = some (.cells #[x0, x1, x2] 92 (0, 0))) (hne : tb ≠ eb) (nm : ByteArray) (k : Nat) :
    PB (((((w2.setCell ⟨tb, 1, none⟩ (.int .i64 (k : Nat))).setCell ⟨eb, 0, none⟩ (.int .i64 kk)).setCell ⟨eb, 1, none⟩ (.string ⟨#[]⟩)).setCell ⟨eb, 2, none⟩ (.slice (some ⟨w2.heap.size, 0, none⟩) 1 1)).alloc (.cells #[.int .i64 1, .string nm, .slice none 0 0] 92)) tb s k ∧
    NameB (((((w2.setCell ⟨tb, 1, none⟩ (.int .i64 (k : Nat))).setCell ⟨eb, 0, none⟩ (.int .i64 kk)).setCell ⟨eb, 1, none⟩ (.string ⟨#[]⟩)).setCell ⟨eb, 2, none⟩ (.slice (some ⟨w2.heap.size, 0, none⟩) 1 1)).alloc (.cells #[.int .i64 1, .string nm, .slice none 0 0] 92)) w2.heap.size nm ∧
    (((((w2.setCell ⟨tb, 1, none⟩ (.int .i64 (k : Nat))).setCell ⟨eb, 0, none⟩ (.int .i64 kk)).setCell ⟨eb, 1, none⟩ (.string ⟨#[]⟩)).setCell ⟨eb, 2, none⟩ (.slice (some ⟨w2.heap.size, 0, none⟩) 1 1)).alloc (.cells #[.int .i64 1, .string nm, .slice none 0 0] 92)).heap[eb]? = some (.cells #[.int .i64 kk, .string ⟨#[]⟩, .slice (some ⟨w2.heap.size, 0, none⟩) 1 1] 92 (0, 0)) ∧
    Upd (fun q => q = tb ∨ q = eb) w2 (((((w2.setCell ⟨tb, 1, none⟩ (.int .i64 (k : Nat))).setCell ⟨eb, 0, none⟩ (.int .i64 kk)).setCell ⟨eb, 1, none⟩ (.string ⟨#[]⟩)).setCell ⟨eb, 2, none⟩ (.slice (some ⟨w2.heap.size, 0, none⟩) 1 1)).alloc (.cells #[.int .i64 1, .string nm, .slice none 0 0] 92)) := by
  have hebl := (Array.getElem?_eq_some_iff.1 he).1
  have htbl := hT.cells.2.2
  have hT1 := hT.set k
  have hu1 : Upd (fun q => q = tb) w2 (w2.setCell ⟨tb, 1, none⟩ (.int .i64 (k : Nat))) := Upd.setCell1 (S := fun q => q = tb) w2 (p := ⟨tb, 1, none⟩) rfl _
  have he1 := (hu1.block eb hebl (fun h => hne h.symm)).trans he
  have hsz : (w2.setCell ⟨tb, 1, none⟩ (.int .i64 (k : Nat))).heap.size = w2.heap.size := by simp [World.setCell]
  generalize w2.setCell ⟨tb, 1, none⟩ (.int .i64 (k : Nat)) = V at *
  have hu3 := set3U V eb (.int .i64 kk) (.string ⟨#[]⟩) (.slice (some ⟨w2.heap.size, 0, none⟩) 1 1)
  have hx : (((V.setCell ⟨eb, 0, none⟩ (.int .i64 kk)).setCell ⟨eb, 1, none⟩ (.string ⟨#[]⟩)).setCell ⟨eb, 2, none⟩ (.slice (some ⟨w2.heap.size, 0, none⟩) 1 1)).heap[eb]? = some (.cells #[.int .i64 kk, .string ⟨#[]⟩, .slice (some ⟨w2.heap.size, 0, none⟩) 1 1] 92 (0, 0)) := by
    simp [World.setCell, Array.getElem?_modify, he1]
  have hxs : (((V.setCell ⟨eb, 0, none⟩ (.int .i64 kk)).setCell ⟨eb, 1, none⟩ (.string ⟨#[]⟩)).setCell ⟨eb, 2, none⟩ (.slice (some ⟨w2.heap.size, 0, none⟩) 1 1)).heap.size = w2.heap.size := by simp [World.setCell] at hsz ⊢; exact hsz
  have hT2 : PB (((V.setCell ⟨eb, 0, none⟩ (.int .i64 kk)).setCell ⟨eb, 1, none⟩ (.string ⟨#[]⟩)).setCell ⟨eb, 2, none⟩ (.slice (some ⟨w2.heap.size, 0, none⟩) 1 1)) tb s k := (hu3.block tb (by omega) hne).trans hT1
  generalize ((V.setCell ⟨eb, 0, none⟩ (.int .i64 kk)).setCell ⟨eb, 1, none⟩ (.string ⟨#[]⟩)).setCell ⟨eb, 2, none⟩ (.slice (some ⟨w2.heap.size, 0, none⟩) 1 1) = V2 at *
  have hn := heap_alloc_new V2 (.cells #[.int .i64 1, .string nm, .slice none 0 0] 92)
  rw [hxs] at hn
  exact ⟨hT2.pure (Upd.alloc1 _ _ _), hn, (Below.heap_alloc V2 _ eb (by omega)).trans hx, (hu1.mono (fun _ _ h => .inl h)).trans (hu3.alloc _) (fun _ _ h => .inr h)⟩
structure PartT (w : World) (tb : Nat) (s : ByteArray) (m eb : Nat) (wr : World) : Prop where
  ht : PB wr tb s m
  eb : wr.heap[eb]? = some (.cells #[.int .i64 1, .string (s.extract 0 m), .slice none 0 0] 92 (0, 0))
  rb : wr.heap[w.heap.size]? = some (.cells #[.int .i64 0, .string ⟨#[]⟩, .slice none 0 0] 92 (0, 0))
  up : Upd (fun q => q = tb) w wr
structure PartS (w : World) (tb : Nat) (s : ByteArray) (m : Nat) (kk : Int) (eb nb : Nat) (wr : World) : Prop where
  ht : PB wr tb s s.size
  nm : NameB wr nb (s.extract 0 m)
  le : w.heap.size < nb
  eb : wr.heap[eb]? = some (.cells #[.int .i64 kk, .string ⟨#[]⟩, .slice (some ⟨nb, 0, none⟩) 1 1] 92 (0, 0))
  rb : wr.heap[w.heap.size]? = some (.cells #[.int .i64 0, .string ⟨#[]⟩, .slice none 0 0] 92 (0, 0))
  up : Upd (fun q => q = tb) w wr
set_option maxRecDepth 100000 in
set_option maxHeartbeats 4000000 in
theorem part6_name {w : World} {tb m : Nat} {s : ByteArray} {kk : Int} (h : PB w tb s 0) (hn : NameSign s m kk) :
    Calls Tryz.prog 219 #[.pointer (some ⟨tb, 0, none⟩)] w fun r w' => ∃ nb, r = .returned (.agg #[.int .i64 kk, .string ⟨#[]⟩, .slice (some ⟨nb, 0, none⟩) 1 1]) ∧ NameB w' nb (s.extract 0 m) ∧ w.heap.size ≤ nb ∧ PB w' tb s s.size ∧ Upd (fun q => q = tb) w w' := by
  have HLT := As.mk (fun i hi h => name_letters hn i hi h)
  have hms := hn.nm.le
  have hm0 := hn.nm.lt
  have hlen := hn.len
  have hsm := hn.nm.small
  have htb := h.cells.2.2
  have hT1 : Pure w (w.alloc (.cells #[.int .i64 0, .string ⟨#[]⟩, .slice none 0 0] 92)) := Upd.alloc1 _ _ _
  obtain ⟨a1, a2, a3⟩ := hn.c0 (by omega)
  obtain ⟨f1, f2⟩ := HLT.out 0 hm0 (by omega)
  obtain ⟨c0, hc0⟩ : ∃ c : Int, c = (s[0]'(by omega)).toNat := ⟨_, rfl⟩
  have g1 : c0 ≥ 97 := by omega
  have g2 : c0 ≤ 122 := by omega
  have HP0 := As.mk (show ∀ W, PB W tb s 0 → Calls Tryz.prog 191 #[.pointer (some ⟨tb, 0, none⟩)] W fun r w' => r = .returned (.int .u8 c0) ∧ Pure W w' from fun W hT => hc0 ▸ peek_at hT (by omega) a2 a3 hsm)
  have hsgn := hn.sg (by omega)
  obtain ⟨cm, hcm⟩ : ∃ c : Int, c = (s[m]'(by omega)).toNat := ⟨_, rfl⟩
  rw [← hcm] at hsgn
  have hc32 : ((s[m]'(by omega)) == 32) = false := by
    rw [beq_eq_false_iff_ne]
    intro e
    rw [e] at hcm
    have : cm = 32 := hcm
    omega
  have HPM := As.mk (show ∀ W, PB W tb s m → Calls Tryz.prog 191 #[.pointer (some ⟨tb, 0, none⟩)] W fun r w' => r = .returned (.int .u8 cm) ∧ Pure W w' from fun W hT => hcm ▸ peek_at hT (by omega) hc32 (by omega) hsm)
  have HPE := As.mk (fun W (hT : PB W tb s s.size) => peek_end hT hsm)
  have HCM := As.mk hcm
  have HSG := As.mk hsgn
  have HT := As.mk (h.pure hT1)
  have HT1 := As.mk hT1
  clear h hn a1 a2 a3 f1 f2 hc0 hcm hc32 hsgn hT1
  go_enter Tryz.func219, Tryz.ntmps219
  go_wp2_with (go_at_call 191; refine (HP0.out _ HT.out).mono ?_; rintro e w1 ⟨rfl, hu⟩; have HU1 := As.mk hu; clear hu; apply As.out)
  refine ⟨?_⟩
  have hz1 := HU1.out.size
  simp at hz1
  have HRB := As.mk ((HU1.out.block w.heap.size (by simp) (fun h => h)).trans (heap_alloc_new w _))
  have HTB := As.mk (HT.out.pure HU1.out)
  generalize hW : w1.alloc (.cells #[.int .i64 0, .string ⟨#[]⟩, .slice none 0 0] 92) = W
  have hPW : Pure w1 W := hW ▸ Upd.alloc1 _ _ _
  have hWs : W.heap.size = w1.heap.size + 1 := by rw [← hW]; simp
  have HEB := As.mk (show W.heap[w1.heap.size]? = some (.cells #[.int .i64 0, .string ⟨#[]⟩, .slice none 0 0] 92 (0, 0)) from hW ▸ heap_alloc_new _ _)
  have HPW := As.mk hPW
  have HTW := As.mk (HTB.out.pure hPW)
  clear hPW
  obtain ⟨⟨z0, z1, z2⟩, z3, z4⟩ := HTW.out.cells
  go_wp2
  go_loopg [] m (fun g wr => ∃ i : Nat, i + g = m ∧ As (PB wr tb s i ∧ Upd (fun q => q = tb) W wr))
  case atStart => exact ⟨0, by omega, ⟨HTW.out, Upd.refl _ _⟩⟩
  case round =>
    obtain ⟨i, hi, HP⟩ := hrel
    clear z0 z1 z2 z3
    obtain ⟨⟨c0', c1', c2'⟩, f1, htb2⟩ := HP.out.1.cells
    have c0d : wr.drew.cell? ⟨tb, 0, none⟩ = some (.string s) := c0'
    have c1d : wr.drew.cell? ⟨tb, 1, none⟩ = some (.int .i64 i) := c1'
    have hisz : i < s.size := by omega
    have hl1 : ((i : Int) < (s.size : Int)) := by omega
    have hl2 : decide (i < s.size) = true := by simp; omega
    have hl3 : decide ((i : Int) < (s.size : Int)) = true := by simp; omega
    by_cases hlt : i < m
    · obtain ⟨g1', rfl⟩ : ∃ g, gk = g + 1 := ⟨gk - 1, by omega⟩
      obtain ⟨l1, l2⟩ := HLT.out i hlt hisz
      have hwr : IntKind.i64.wrap ((i : Int) + 1) = (i : Int) + 1 := by rw [IntKind.wrap_i64]; omega
      have HI := As.mk hi
      generalize hsk : s[i]'hisz = cc at *
      have e1 : decide ((97 : Int) ≤ (cc.toNat : Int)) = true := by simp; omega
      have e2 : decide ((cc.toNat : Int) ≤ 122) = true := by simp; omega
      clear hi l1 l2
      go_wp2
      refine wp_region_held_drew (S := (fun v => v.cell? ⟨tb, 0, none⟩ = some (.string s) ∧ v.cell? ⟨tb, 1, none⟩ = some (.int .i64 i))) (by kernel_rfl) ?_ (fun hHeld => ?_)
      · exact ⟨c0d, c1d⟩
      refine zH 0 ?_
      (try simp only [Act.put, sA, sB, sC])
      refine zH 1 ?_
      (try simp only [Act.put, sA, sB, sC])
      refine zH 2 ?_
      (try simp only [Act.put, sA, sB, sC])
      refine zH 3 ?_
      (try simp only [Act.put, sA, sB, sC])
      refine zH 4 ?_
      (try simp only [Act.put, sA, sB, sC])
      refine zH 5 ?_
      (try simp only [Act.put, sA, sB, sC])
      refine zH 6 ?_
      (try simp only [Act.put, sA, sB, sC])
      refine zH 7 ?_
      (try simp only [Act.put, sA, sB, sC])
      refine zH 8 ?_
      (try simp only [Act.put, sA, sB, sC])
      refine zH 9 ?_
      (try simp only [Act.put, sA, sB, sC])
      refine zH 10 ?_
      (try simp only [Act.put, sA, sB, sC])
      refine zH 11 ?_
      (try simp only [Act.put, sA, sB, sC])
      refine zH 12 ?_
      (try simp only [Act.put, sA, sB, sC])
      refine zH 13 ?_
      (try simp only [Act.put, sA, sB, sC])
      refine zH 14 ?_
      (try simp only [Act.put, sA, sB, sC])
      refine zH 15 ?_
      (try simp only [Act.put, sA, sB, sC])
      refine zH 16 ?_
      (try simp only [Act.put, sA, sB, sC])
      refine zH 17 ?_
      (try simp only [Act.put, sA, sB, sC])
      refine zH 18 ?_
      (try simp only [Act.put, sA, sB, sC])
      refine zH 19 ?_
      (try simp only [Act.put, sA, sB, sC])
      refine zH 20 ?_
      (try simp only [Act.put, sA, sB, sC])
      refine zH 21 ?_
      (try simp only [Act.put, sA, sB, sC])
      refine zH 22 ?_
      (try simp only [Act.put, sA, sB, sC])
      refine zH 23 ?_
      (try simp only [Act.put, sA, sB, sC])
      refine zH 24 ?_
      (try simp only [Act.put, sA, sB, sC])
      refine zH 25 ?_
      (try simp only [Act.put, sA, sB, sC])
      refine zH 26 ?_
      (try simp only [Act.put, sA, sB, sC])
      refine zH 27 ?_
      (try simp only [Act.put, sA, sB, sC])
      refine zH 28 ?_
      (try simp only [Act.put, sA, sB, sC])
      refine zH 29 ?_
      (try simp only [Act.put, sA, sB, sC])
      refine zH 30 ?_
      (try simp only [Act.put, sA, sB, sC])
      refine zH 31 ?_
      (try simp only [Act.put, sA, sB, sC])
      refine zH 32 ?_
      (try simp only [Act.put, sA, sB, sC])
      refine zH 33 ?_
      (try simp only [Act.put, sA, sB, sC])
      refine wpAnyH_done (by kernel_rfl) ?_ _
      go_wp2
      go_roundg g1'
      case measure => omega
      case rel =>
        have hT2 := (HP.out.1.pure ((Upd.refl (fun _ => False) wr).drew)).set (i + 1)
        exact ⟨i + 1, by have := HI.out; omega, ⟨hT2, (HP.out.2.trans ((Upd.refl (fun _ => False) wr).drew) (fun _ _ h => h.elim)).setCell (p := ⟨tb, 1, none⟩) (fun _ => rfl) _⟩⟩
    · have him : i = m := by omega
      subst him
      have hcm := HCM.out
      have h97 : cm < 97 := by rcases HSG.out with h | h | h <;> omega
      generalize hsk : s[i]'hisz = cc at *
      have e1 : decide ((97 : Int) ≤ (cc.toNat : Int)) = false := by simp; omega
      clear hi hcm h97
      go_wp2
      refine wp_region_held_drew (S := (fun v => v.cell? ⟨tb, 0, none⟩ = some (.string s) ∧ v.cell? ⟨tb, 1, none⟩ = some (.int .i64 i))) (by kernel_rfl) ?_ (fun hHeld => ?_)
      · exact ⟨c0d, c1d⟩
      refine zH 0 ?_
      (try simp only [Act.put, sA, sB, sC])
      refine zH 1 ?_
      (try simp only [Act.put, sA, sB, sC])
      refine zH 2 ?_
      (try simp only [Act.put, sA, sB, sC])
      refine zH 3 ?_
      (try simp only [Act.put, sA, sB, sC])
      refine zH 4 ?_
      (try simp only [Act.put, sA, sB, sC])
      refine zH 5 ?_
      (try simp only [Act.put, sA, sB, sC])
      refine zH 6 ?_
      (try simp only [Act.put, sA, sB, sC])
      refine zH 7 ?_
      (try simp only [Act.put, sA, sB, sC])
      refine zH 8 ?_
      (try simp only [Act.put, sA, sB, sC])
      refine zH 9 ?_
      (try simp only [Act.put, sA, sB, sC])
      refine zH 10 ?_
      (try simp only [Act.put, sA, sB, sC])
      refine zH 11 ?_
      (try simp only [Act.put, sA, sB, sC])
      refine zH 12 ?_
      (try simp only [Act.put, sA, sB, sC])
      refine zH 13 ?_
      (try simp only [Act.put, sA, sB, sC])
      refine zH 14 ?_
      (try simp only [Act.put, sA, sB, sC])
      refine zH 15 ?_
      (try simp only [Act.put, sA, sB, sC])
      refine zH 16 ?_
      (try simp only [Act.put, sA, sB, sC])
      refine zH 17 ?_
      (try simp only [Act.put, sA, sB, sC])
      refine zH 18 ?_
      (try simp only [Act.put, sA, sB, sC])
      refine zH 19 ?_
      (try simp only [Act.put, sA, sB, sC])
      refine zH 20 ?_
      (try simp only [Act.put, sA, sB, sC])
      refine zH 21 ?_
      (try simp only [Act.put, sA, sB, sC])
      refine zH 22 ?_
      (try simp only [Act.put, sA, sB, sC])
      refine wpAnyH_take (i := 23) (oi := { dst := (some 47), op := (Go.Op.move (Go.Operand.tmp 0)), type := 260, pos := "ref.go:132", after := #[{ on := 22, ground := Go.Ground.guard }], guard := (some (22, true)) }) (v := undef) rfl (by kernel_rfl) (by kernel_rfl) (by kernel_rfl) (fun _ _ _ h => h) (Or.inr ⟨by rfl, rfl⟩) (by assumption) ?_
      (try simp only [Act.put, sA, sB, sC])
      refine wpAnyH_take (i := 24) (oi := { dst := (some 48), op := (Go.Op.nilCheck (Go.Operand.tmp 47)), type := 0, pos := "ref.go:132", after := #[{ on := 23, ground := Go.Ground.data }, { on := 22, ground := Go.Ground.guard }], guard := (some (22, true)) }) (v := undef) rfl (by kernel_rfl) (by kernel_rfl) (by kernel_rfl) (fun _ _ _ h => h) (Or.inr ⟨by rfl, rfl⟩) (by assumption) ?_
      (try simp only [Act.put, sA, sB, sC])
      refine wpAnyH_take (i := 25) (oi := { dst := (some 49), op := (Go.Op.fieldAddr 262 (Go.Operand.tmp 48) 0), type := 0, pos := "ref.go:132", after := #[{ on := 24, ground := Go.Ground.data }, { on := 22, ground := Go.Ground.guard }], guard := (some (22, true)) }) (v := undef) rfl (by kernel_rfl) (by kernel_rfl) (by kernel_rfl) (fun _ _ _ h => h) (Or.inr ⟨by rfl, rfl⟩) (by assumption) ?_
      (try simp only [Act.put, sA, sB, sC])
      refine wpAnyH_take (i := 26) (oi := { dst := (some 50), op := (Go.Op.load 9 (Go.Operand.tmp 49)), type := 9, pos := "ref.go:132", after := #[{ on := 25, ground := Go.Ground.data }, { on := 22, ground := Go.Ground.guard }], guard := (some (22, true)) }) (v := undef) rfl (by kernel_rfl) (by kernel_rfl) (by kernel_rfl) (fun _ _ _ h => h) (Or.inr ⟨by rfl, rfl⟩) (by assumption) ?_
      (try simp only [Act.put, sA, sB, sC])
      refine wpAnyH_take (i := 27) (oi := { dst := (some 51), op := (Go.Op.move (Go.Operand.tmp 0)), type := 260, pos := "ref.go:132", after := #[{ on := 22, ground := Go.Ground.guard }], guard := (some (22, true)) }) (v := undef) rfl (by kernel_rfl) (by kernel_rfl) (by kernel_rfl) (fun _ _ _ h => h) (Or.inr ⟨by rfl, rfl⟩) (by assumption) ?_
      (try simp only [Act.put, sA, sB, sC])
      refine wpAnyH_take (i := 28) (oi := { dst := (some 52), op := (Go.Op.nilCheck (Go.Operand.tmp 51)), type := 0, pos := "ref.go:132", after := #[{ on := 27, ground := Go.Ground.data }, { on := 22, ground := Go.Ground.guard }], guard := (some (22, true)) }) (v := undef) rfl (by kernel_rfl) (by kernel_rfl) (by kernel_rfl) (fun _ _ _ h => h) (Or.inr ⟨by rfl, rfl⟩) (by assumption) ?_
      (try simp only [Act.put, sA, sB, sC])
      refine wpAnyH_take (i := 29) (oi := { dst := (some 53), op := (Go.Op.fieldAddr 262 (Go.Operand.tmp 52) 1), type := 0, pos := "ref.go:132", after := #[{ on := 28, ground := Go.Ground.data }, { on := 22, ground := Go.Ground.guard }], guard := (some (22, true)) }) (v := undef) rfl (by kernel_rfl) (by kernel_rfl) (by kernel_rfl) (fun _ _ _ h => h) (Or.inr ⟨by rfl, rfl⟩) (by assumption) ?_
      (try simp only [Act.put, sA, sB, sC])
      refine wpAnyH_take (i := 30) (oi := { dst := (some 54), op := (Go.Op.load 3 (Go.Operand.tmp 53)), type := 3, pos := "ref.go:132", after := #[{ on := 29, ground := Go.Ground.data }, { on := 22, ground := Go.Ground.guard }], guard := (some (22, true)) }) (v := undef) rfl (by kernel_rfl) (by kernel_rfl) (by kernel_rfl) (fun _ _ _ h => h) (Or.inr ⟨by rfl, rfl⟩) (by assumption) ?_
      (try simp only [Act.put, sA, sB, sC])
      refine wpAnyH_take (i := 31) (oi := { dst := (some 55), op := (Go.Op.index 9 (Go.Operand.tmp 50) (Go.Operand.tmp 54)), type := 5, pos := "ref.go:132", after := #[{ on := 26, ground := Go.Ground.data }, { on := 30, ground := Go.Ground.data }, { on := 22, ground := Go.Ground.guard }], guard := (some (22, true)) }) (v := undef) rfl (by kernel_rfl) (by kernel_rfl) (by kernel_rfl) (fun _ _ _ h => h) (Or.inr ⟨by rfl, rfl⟩) (by assumption) ?_
      (try simp only [Act.put, sA, sB, sC])
      refine wpAnyH_take (i := 32) (oi := { dst := (some 56), op := (Go.Op.binOp Go.BinOp.leq 5 (Go.Operand.tmp 55) (Go.Operand.const (Go.Value.int Go.IntKind.u8 122)) 5), type := 4, pos := "ref.go:132", after := #[{ on := 31, ground := Go.Ground.data }, { on := 22, ground := Go.Ground.guard }], guard := (some (22, true)) }) (v := undef) rfl (by kernel_rfl) (by kernel_rfl) (by kernel_rfl) (fun _ _ _ h => h) (Or.inr ⟨by rfl, rfl⟩) (by assumption) ?_
      (try simp only [Act.put, sA, sB, sC])
      refine zH 33 ?_
      (try simp only [Act.put, sA, sB, sC])
      refine wpAnyH_done (by kernel_rfl) ?_ _
      have heb := (HP.out.2.block w1.heap.size (by omega) (by omega)).trans HEB.out
      have HEBr := As.mk heb
      obtain ⟨⟨_, _, _⟩, ⟨ef0, ef1, ef2⟩, hebl⟩ := cells3P heb
      have hne : ¬ tb = w1.heap.size := by omega
      have n0d : wr.drew.drew.cell? ⟨tb, 0, none⟩ = some (.string s) := c0'
      have n1d : wr.drew.drew.cell? ⟨tb, 1, none⟩ = some (.int .i64 i) := c1'
      have hsl1 : (0 : Int) ≤ (i : Int) := by omega
      have hsl2 : (i : Int) ≤ (s.size : Int) := by omega
      clear heb
      go_wp2
      refine wp_region_T (P := Tryz.prog) (fun v => (v.cell? ⟨tb, 0, none⟩ = some (.string s) ∧ v.cell? ⟨tb, 1, none⟩ = some (.int .i64 i)) ∧ v.frozen? ⟨w1.heap.size, 0, none⟩ = false ∧ v.frozen? ⟨w1.heap.size, 1, none⟩ = false ∧ v.frozen? ⟨w1.heap.size, 2, none⟩ = false) 11 (by kernel_rfl) ?_ (fun hHeld => ?_)
      · first | exact ⟨⟨((set3U _ w1.heap.size _ _ _).cell htb2 hne).trans n0d, ((set3U _ w1.heap.size _ _ _).cell htb2 hne).trans n1d⟩, by simp [World.frozen?_setCell, ef0], by simp [World.frozen?_setCell, ef1], by simp [World.frozen?_setCell, ef2]⟩ | exact ⟨⟨n0d, n1d⟩, ef0, ef1, ef2⟩
      refine zT 0 ?_
      (try simp only [Act.put, sA, sB, sC])
      refine zT 1 ?_
      (try simp only [Act.put, sA, sB, sC])
      refine zT 2 ?_
      (try simp only [Act.put, sA, sB, sC])
      refine zT 3 ?_
      (try simp only [Act.put, sA, sB, sC])
      refine zT 4 ?_
      (try simp only [Act.put, sA, sB, sC])
      refine zT 5 ?_
      (try simp only [Act.put, sA, sB, sC])
      refine zT 6 ?_
      (try simp only [Act.put, sA, sB, sC])
      refine zT 7 ?_
      (try simp only [Act.put, sA, sB, sC])
      refine zT 8 ?_
      (try simp only [Act.put, sA, sB, sC])
      refine zT 9 ?_
      (try simp only [Act.put, sA, sB, sC])
      refine zT 10 ?_
      (try simp only [Act.put, sA, sB, sC])
      refine oT 11 (fun K hK => ?_)
      go_simp
      
      refine hK.out _ _ (fun h => absurd rfl h) (fun hHeld => ?_)
      clear hK K
      (try simp only [Act.put, sA, sB, sC])
      refine wpAnyT_done (by kernel_rfl) ?_ _
      have HF : As (PartT w tb s i w1.heap.size ((((wr.setCell ⟨w1.heap.size, 0, none⟩ (.int .i64 1)).setCell ⟨w1.heap.size, 1, none⟩ (.string (s.extract 0 i))).setCell ⟨w1.heap.size, 2, none⟩ (.slice none 0 0)).drew.drew)) := ⟨by
        have hu := set3U wr w1.heap.size (.int .i64 1) (.string (s.extract 0 i)) (.slice none 0 0)
        have hx : (((wr.setCell ⟨w1.heap.size, 0, none⟩ (.int .i64 1)).setCell ⟨w1.heap.size, 1, none⟩ (.string (s.extract 0 i))).setCell ⟨w1.heap.size, 2, none⟩ (.slice none 0 0)).heap[w1.heap.size]? = some (.cells #[.int .i64 1, .string (s.extract 0 i), .slice none 0 0] 92 (0, 0)) := by
          simp [World.setCell, Array.getElem?_modify, HEBr.out]
        have h1 : Upd (fun q => q = tb) w wr := (HT1.out.mono (fun _ _ h => h.elim)).trans ((HU1.out.mono (fun _ _ h => h.elim)).trans ((HPW.out.mono (fun _ _ h => h.elim)).trans HP.out.2 (fun _ _ h => h)) (fun _ _ h => h)) (fun _ _ h => h)
        have hrb := (HP.out.2.block w.heap.size (by omega) (by omega)).trans ((HPW.out.block w.heap.size (by omega) (fun h => h)).trans HRB.out)
        refine ⟨(hu.drew.drew.block tb htb2 hne).trans HP.out.1, hx, (hu.drew.drew.block w.heap.size (by have := (Array.getElem?_eq_some_iff.1 hrb).1; omega) (by omega)).trans hrb, h1.trans hu.drew.drew (fun q hq h => by omega)⟩⟩
      clear c0' c1' c2' f1 c0d c1d n0d n1d ef0 ef1 ef2
      go_wp2
      go_loopg [] 1 (fun g wx => (g = 1 ∧ As (PartT w tb s i w1.heap.size wx)) ∨ (g = 0 ∧ ∃ nb, As (PartS w tb s i kk w1.heap.size nb wx)))
      case atStart => exact .inl ⟨rfl, HF⟩
      case round =>
        rcases hrel with ⟨rfl, HR⟩ | ⟨rfl, nb, HR⟩
        · go_wp2_with (go_at_call 191; refine (HPM.out _ HR.out.ht).mono ?_; rintro e w3 ⟨rfl, hu⟩; have HU3 := As.mk hu; clear hu; apply As.out)
          refine ⟨?_⟩
          have hT3 := HR.out.ht.pure HU3.out
          have heb3 := (HU3.out.block w1.heap.size (Array.getElem?_eq_some_iff.1 HR.out.eb).1 (fun h => h)).trans HR.out.eb
          have hrb3 := (HU3.out.block w.heap.size (Array.getElem?_eq_some_iff.1 HR.out.rb).1 (fun h => h)).trans HR.out.rb
          obtain ⟨⟨c0', c1', c2'⟩, f1, htb3⟩ := hT3.cells
          obtain ⟨⟨e0, e1, e2⟩, ⟨ef0, ef1, ef2⟩, hel⟩ := cells3P heb3
          have hrl3 := (Array.getElem?_eq_some_iff.1 hrb3).1
          have hwr : IntKind.i64.wrap ((i : Int) + 1) = (i : Int) + 1 := by rw [IntKind.wrap_i64]; omega
          have hne2 : ¬ w1.heap.size = tb := by omega
          have HT3 := As.mk hT3
          have HE3 := As.mk heb3
          have HRB3 := As.mk hrb3
          have HZ3 := As.mk HU3.out.size
          clear hT3 heb3 hrb3
          rcases HSG.out with ⟨rfl, rfl⟩ | ⟨rfl, rfl⟩ | ⟨rfl, rfl⟩
          all_goals go_wp2
          all_goals go_roundg 0
          all_goals first
            | (case measure => omega)
            | (case rel =>
                obtain ⟨p1, p2, p3, p4⟩ := part_step6 HT3.out HE3.out hne (s.extract 0 i) (i + 1)
                refine .inr ⟨rfl, _, ⟨⟨by rw [← hlen]; exact p1, p2, by have := hrl3; omega, p3, (p4.block w.heap.size hrl3 (by omega)).trans HRB3.out, ?_⟩⟩⟩
                exact (HR.out.up.trans HU3.out (fun _ _ h => h.elim)).trans p4 (fun q hq h => by omega))
        · go_wp2_with (go_at_call 191; refine (HPE.out _ HR.out.ht).mono ?_; rintro e w3 ⟨rfl, hu⟩; have HU3 := As.mk hu; clear hu; apply As.out)
          refine ⟨?_⟩
          have heb3 := (HU3.out.block w1.heap.size (Array.getElem?_eq_some_iff.1 HR.out.eb).1 (fun h => h)).trans HR.out.eb
          have hrb3 := (HU3.out.block w.heap.size (Array.getElem?_eq_some_iff.1 HR.out.rb).1 (fun h => h)).trans HR.out.rb
          obtain ⟨⟨e0, e1, e2⟩, ⟨ef0, ef1, ef2⟩, hel⟩ := cells3P heb3
          obtain ⟨⟨r0, r1, r2⟩, ⟨rf0, rf1, rf2⟩, hrl⟩ := cells3P hrb3
          clear heb3 hrb3
          go_wp2
          exact bodyPost_ret (v := .agg #[.int .i64 kk, .string ⟨#[]⟩, .slice (some ⟨nb, 0, none⟩) 1 1]) (by simp [results, Tryz.results219, go_sem, r0, r1, r2, rf0, rf1, rf2]) rfl ⟨nb, rfl, by
            have hnb := (Array.getElem?_eq_some_iff.1 HR.out.nm).1
            exact (((set3U w3 w.heap.size _ _ _).block nb (Nat.lt_of_lt_of_le hnb HU3.out.size) (by have := HR.out.le; omega)).trans ((HU3.out.block nb hnb (fun h => h)).trans HR.out.nm)), by have := HR.out.le; omega, by
            have hT := HR.out.ht.pure HU3.out
            exact ((set3U w3 w.heap.size _ _ _).block tb hT.cells.2.2 (by omega)).trans hT, (HR.out.up.trans HU3.out (fun _ _ h => h.elim)).trans (set3U w3 w.heap.size _ _ _) (fun q hq h => absurd h (by omega))⟩
end Go.Proofs.YtofjodppljnlaaaGreatDoor
namespace Go.Proofs.YtofjodppljnlaaaGreatDoor
open Go.RowKit
set_option linter.unusedVariables false
set_option linter.unusedSimpArgs false
set_option maxRecDepth 100000 in
set_option maxHeartbeats 4000000 in
theorem join_one {w : World} {lb c : Nat} {k : Int} {x1 : ByteArray} {x00 : Int} {A2 : Option Addr} {n2 c2 : Nat} (h : w.heap[lb]? = some (.cells #[.int .i64 x00, .string x1, .slice A2 n2 c2] 92 (0, 0))) :
    Calls Tryz.prog 214 #[.int .i64 k, .slice (some ⟨lb, 0, none⟩) 1 c] w fun r w' => r = .returned (.agg #[.int .i64 x00, .string x1, .slice A2 n2 c2]) ∧ Pure w w' := by
  have hT1 : Pure w (w.alloc (.cells #[.int .i64 0, .string ⟨#[]⟩, .slice none 0 0] 92)) := Upd.alloc1 _ _ _
  have hl := (Array.getElem?_eq_some_iff.1 h).1
  have h1 := (hT1.block lb hl (fun h => h)).trans h
  obtain ⟨⟨e0, e1, e2⟩, _, _⟩ := cells3P h
  have hrb := heap_alloc_new w (.cells #[.int .i64 0, .string ⟨#[]⟩, .slice none 0 0] 92)
  have HRB := As.mk hrb
  have hne : ¬ lb = w.heap.size := by omega
  clear h h1 hrb hT1
  go_enter Tryz.func214, Tryz.ntmps214
  go_wp2
  obtain ⟨⟨r0, r1, r2⟩, ⟨rf0, rf1, rf2⟩, hrl⟩ := cells3P HRB.out
  exact bodyPost_ret (v := .agg #[.int .i64 x00, .string x1, .slice A2 n2 c2]) (by simp [results, Tryz.results214, go_sem, r0, r1, r2, rf0, rf1, rf2]) rfl ⟨rfl, Upd.alloc1 _ _ _⟩
abbrev PartPost6 (w : World) (tb : Nat) (s : ByteArray) (m : Nat) (kk : Int) (r : Ending) (w' : World) : Prop := ∃ nb, r = .returned (.agg #[.int .i64 kk, .string ⟨#[]⟩, .slice (some ⟨nb, 0, none⟩) 1 1]) ∧ NameB w' nb (s.extract 0 m) ∧ w.heap.size ≤ nb ∧ PB w' tb s s.size ∧ Upd (fun q => q = tb) w w'
set_option maxRecDepth 100000 in
set_option maxHeartbeats 4000000 in
theorem seq6_name {w : World} {tb m : Nat} {s : ByteArray} {kk : Int} (h : PB w tb s 0) (hn : NameSign s m kk) : Calls Tryz.prog 213 #[.pointer (some ⟨tb, 0, none⟩)] w (PartPost6 w tb s m kk) := by
  have hsm := hn.nm.small
  have htb := h.cells.2.2
  have hT1 : Pure w (w.alloc (.cells #[.int .i64 0, .string ⟨#[]⟩, .slice none 0 0] 92)) := Upd.alloc1 _ _ _
  have HPN := As.mk (part6_name (h.pure hT1) hn)
  have HPE := As.mk (fun (W : World) (hT : PB W tb s s.size) => peek_end hT hsm)
  have HT1 := As.mk hT1
  have HRB := As.mk (heap_alloc_new w (.cells #[.int .i64 0, .string ⟨#[]⟩, .slice none 0 0] 92))
  clear h hn hT1
  go_enter Tryz.func213, Tryz.ntmps213
  go_wp2_with (go_at_call 219; refine HPN.out.mono ?_; rintro e w1 ⟨nb, rfl, hnm, hnb, hT, hu⟩; have HNM := As.mk hnm; have HNB := As.mk hnb; have HTB := As.mk hT; have HU1 := As.mk hu; clear hnm hnb hT hu; apply As.out)
  refine ⟨?_⟩
  have hz1 := HU1.out.size
  simp at hz1
  have hnb0 := HNB.out
  simp at hnb0
  have hnbl := (Array.getElem?_eq_some_iff.1 HNM.out).1
  have hrb1 := (HU1.out.block w.heap.size (by simp) (by omega)).trans HRB.out
  generalize hW : w1.alloc (.cells #[.int .i64 kk, .string ⟨#[]⟩, .slice (some ⟨nb, 0, none⟩) 1 1] 92) = W
  have hPW : Pure w1 W := hW ▸ Upd.alloc1 _ _ _
  have hWs : W.heap.size = w1.heap.size + 1 := by rw [← hW]; simp
  have HLB := As.mk (show W.heap[w1.heap.size]? = some (.cells #[.int .i64 kk, .string ⟨#[]⟩, .slice (some ⟨nb, 0, none⟩) 1 1] 92 (0, 0)) from hW ▸ heap_alloc_new _ _)
  have HTW := As.mk (HTB.out.pure hPW)
  have HRBW := As.mk ((hPW.block w.heap.size (Array.getElem?_eq_some_iff.1 hrb1).1 (fun h => h)).trans hrb1)
  have HNW := As.mk (show NameB W nb (s.extract 0 m) from (hPW.block nb hnbl (fun h => h)).trans HNM.out)
  have HUW := As.mk (show Upd (fun q => q = tb) w W from (HT1.out.mono (fun _ _ h => h.elim)).trans (HU1.out.trans hPW (fun _ _ h => h.elim)) (fun _ _ h => h))
  clear hrb1 hPW
  go_wp2
  go_loopg [3] 0 (fun g lv wr => lv = .slice (some ⟨w1.heap.size, 0, none⟩) 1 1 ∧ As (wr = W))
  case atStart => exact ⟨rfl, ⟨rfl⟩⟩
  case round =>
    obtain ⟨rfl, HWR⟩ := hrel
    obtain rfl := HWR.out
    obtain ⟨⟨c0, c1, c2⟩, f1, htb2⟩ := HTW.out.cells
    go_wp2_with (first | (go_at_call 191; refine (HPE.out _ HTW.out).mono ?_; rintro e w2 ⟨rfl, hu⟩; have HU2 := As.mk hu; clear hu) | (go_at_call 214; refine (join_one ((HU2.out.block _ (Array.getElem?_eq_some_iff.1 HLB.out).1 (fun h => h)).trans HLB.out)).mono ?_; rintro e w3 ⟨rfl, hu⟩; have HU3 := As.mk (HU2.out.trans hu (fun _ _ h => h)); clear hu; apply As.out))
    refine ⟨?_⟩
    have hrb3 := (HU3.out.block w.heap.size (Array.getElem?_eq_some_iff.1 HRBW.out).1 (fun h => h)).trans HRBW.out
    obtain ⟨⟨r0, r1, r2⟩, ⟨rf0, rf1, rf2⟩, hrl⟩ := cells3P hrb3
    clear hrb3
    go_wp2
    exact bodyPost_ret (v := .agg #[.int .i64 kk, .string ⟨#[]⟩, .slice (some ⟨nb, 0, none⟩) 1 1]) (by simp [results, Tryz.results213, go_sem, r0, r1, r2, rf0, rf1, rf2]) rfl ⟨nb, rfl, by
      have hnm3 := (HU3.out.block nb (Array.getElem?_eq_some_iff.1 HNW.out).1 (fun h => h)).trans HNW.out
      exact ((set3U w3 w.heap.size _ _ _).block nb (Array.getElem?_eq_some_iff.1 hnm3).1 (by omega)).trans hnm3, by omega, by
      have hT := HTW.out.pure HU3.out
      exact ((set3U w3 w.heap.size _ _ _).block tb hT.cells.2.2 (by omega)).trans hT, (HUW.out.trans HU3.out (fun _ _ h => h.elim)).trans (set3U w3 w.heap.size _ _ _) (fun q hq h => absurd h (by omega))⟩
set_option maxRecDepth 100000 in
set_option maxHeartbeats 4000000 in
theorem alt6_name {w : World} {tb m : Nat} {s : ByteArray} {kk : Int} (h : PB w tb s 0) (hn : NameSign s m kk) : Calls Tryz.prog 192 #[.pointer (some ⟨tb, 0, none⟩)] w (PartPost6 w tb s m kk) := by
  have hsm := hn.nm.small
  have htb := h.cells.2.2
  have hT1 : Pure w (w.alloc (.cells #[.int .i64 0, .string ⟨#[]⟩, .slice none 0 0] 92)) := Upd.alloc1 _ _ _
  have HPN := As.mk (seq6_name (h.pure hT1) hn)
  have HPE := As.mk (fun (W : World) (hT : PB W tb s s.size) => peek_end hT hsm)
  have HT1 := As.mk hT1
  have HRB := As.mk (heap_alloc_new w (.cells #[.int .i64 0, .string ⟨#[]⟩, .slice none 0 0] 92))
  clear h hn hT1
  go_enter Tryz.func192, Tryz.ntmps192
  go_wp2_with (go_at_call 213; refine HPN.out.mono ?_; rintro e w1 ⟨nb, rfl, hnm, hnb, hT, hu⟩; have HNM := As.mk hnm; have HNB := As.mk hnb; have HTB := As.mk hT; have HU1 := As.mk hu; clear hnm hnb hT hu; apply As.out)
  refine ⟨?_⟩
  have hz1 := HU1.out.size
  simp at hz1
  have hnb0 := HNB.out
  simp at hnb0
  have hnbl := (Array.getElem?_eq_some_iff.1 HNM.out).1
  have hrb1 := (HU1.out.block w.heap.size (by simp) (by omega)).trans HRB.out
  generalize hW : w1.alloc (.cells #[.int .i64 kk, .string ⟨#[]⟩, .slice (some ⟨nb, 0, none⟩) 1 1] 92) = W
  have hPW : Pure w1 W := hW ▸ Upd.alloc1 _ _ _
  have hWs : W.heap.size = w1.heap.size + 1 := by rw [← hW]; simp
  have HLB := As.mk (show W.heap[w1.heap.size]? = some (.cells #[.int .i64 kk, .string ⟨#[]⟩, .slice (some ⟨nb, 0, none⟩) 1 1] 92 (0, 0)) from hW ▸ heap_alloc_new _ _)
  have HTW := As.mk (HTB.out.pure hPW)
  have HRBW := As.mk ((hPW.block w.heap.size (Array.getElem?_eq_some_iff.1 hrb1).1 (fun h => h)).trans hrb1)
  have HNW := As.mk (show NameB W nb (s.extract 0 m) from (hPW.block nb hnbl (fun h => h)).trans HNM.out)
  have HUW := As.mk (show Upd (fun q => q = tb) w W from (HT1.out.mono (fun _ _ h => h.elim)).trans (HU1.out.trans hPW (fun _ _ h => h.elim)) (fun _ _ h => h))
  clear hrb1 hPW
  go_wp2
  go_loopg [3] 0 (fun g lv wr => lv = .slice (some ⟨w1.heap.size, 0, none⟩) 1 1 ∧ As (wr = W))
  case atStart => exact ⟨rfl, ⟨rfl⟩⟩
  case round =>
    obtain ⟨rfl, HWR⟩ := hrel
    obtain rfl := HWR.out
    obtain ⟨⟨c0, c1, c2⟩, f1, htb2⟩ := HTW.out.cells
    go_wp2_with (first | (go_at_call 191; refine (HPE.out _ HTW.out).mono ?_; rintro e w2 ⟨rfl, hu⟩; have HU2 := As.mk hu; clear hu) | (go_at_call 214; refine (join_one ((HU2.out.block _ (Array.getElem?_eq_some_iff.1 HLB.out).1 (fun h => h)).trans HLB.out)).mono ?_; rintro e w3 ⟨rfl, hu⟩; have HU3 := As.mk (HU2.out.trans hu (fun _ _ h => h)); clear hu; apply As.out))
    refine ⟨?_⟩
    have hrb3 := (HU3.out.block w.heap.size (Array.getElem?_eq_some_iff.1 HRBW.out).1 (fun h => h)).trans HRBW.out
    obtain ⟨⟨r0, r1, r2⟩, ⟨rf0, rf1, rf2⟩, hrl⟩ := cells3P hrb3
    clear hrb3
    go_wp2
    exact bodyPost_ret (v := .agg #[.int .i64 kk, .string ⟨#[]⟩, .slice (some ⟨nb, 0, none⟩) 1 1]) (by simp [results, Tryz.results192, go_sem, r0, r1, r2, rf0, rf1, rf2]) rfl ⟨nb, rfl, by
      have hnm3 := (HU3.out.block nb (Array.getElem?_eq_some_iff.1 HNW.out).1 (fun h => h)).trans HNW.out
      exact ((set3U w3 w.heap.size _ _ _).block nb (Array.getElem?_eq_some_iff.1 hnm3).1 (by omega)).trans hnm3, by omega, by
      have hT := HTW.out.pure HU3.out
      exact ((set3U w3 w.heap.size _ _ _).block tb hT.cells.2.2 (by omega)).trans hT, (HUW.out.trans HU3.out (fun _ _ h => h.elim)).trans (set3U w3 w.heap.size _ _ _) (fun q hq h => absurd h (by omega))⟩
/-- What the reference parses a text to. -/
def Parses6 (s : ByteArray) (e : Ex) : Prop := ∀ w : World, Calls Tryz.prog 164 #[.string s] w fun r w' => ∃ A c, r = .returned (.tuple #[e.val A c, .int .i64 s.size, .int .i64 0]) ∧ e.l.length ≤ c ∧ exR.row w' (fun k => w.heap.size ≤ k) A e.l ∧ Pure w w'
set_option maxRecDepth 100000 in
set_option maxHeartbeats 4000000 in
theorem parse6_name {m : Nat} {s : ByteArray} {kk : Int} (hn : NameSign s m kk) (hs : s.size ≤ 200) (hck : exprCheck (.mk kk ⟨#[]⟩ [.mk 1 (s.extract 0 m) []]) = 0) (hwt : (Ex.mk kk ⟨#[]⟩ [.mk 1 (s.extract 0 m) []]).wt ≤ 1048576 * 4) : Parses6 s (.mk kk ⟨#[]⟩ [.mk 1 (s.extract 0 m) []]) := by
  intro w
  have e2 : ¬ (200 : Int) < (s.size : Int) := by omega
  have e4 : ¬ ((s.size : Int) > 200) := by omega
  have hm := hn.nm.lt
  have hlen := hn.len
  have hsm := hn.nm.small
  obtain ⟨f1, f2⟩ := name_letters hn 0 hm (by omega)
  obtain ⟨a1, a2, a3⟩ := hn.c0 (by omega)
  obtain ⟨c0, hc0⟩ : ∃ c : Int, c = (s[0]'(by omega)).toNat := ⟨_, rfl⟩
  have g1 : (c0 == 0) = false := by simp; omega
  have HP0 := As.mk (show ∀ W tb, PB W tb s 0 → Calls Tryz.prog 191 #[.pointer (some ⟨tb, 0, none⟩)] W fun r w' => r = .returned (.int .u8 c0) ∧ Pure W w' from fun W tb hT => hc0 ▸ peek_at hT (by omega) a2 a3 hsm)
  have HPE := As.mk (fun (W : World) tb (hT : PB W tb s s.size) => peek_end hT hsm)
  have HAL := As.mk (fun (W : World) tb (hT : PB W tb s 0) => alt6_name hT hn)
  have hT1 : Pure w ((w.alloc (.cells #[.int .i64 0, .string ⟨#[]⟩, .slice none 0 0] 92)).alloc (.cells #[.string s, .int .i64 0, .bool false] 262)) := (Upd.alloc1 _ _ _).alloc _
  have hTB : PB ((w.alloc (.cells #[.int .i64 0, .string ⟨#[]⟩, .slice none 0 0] 92)).alloc (.cells #[.string s, .int .i64 0, .bool false] 262)) (w.heap.size + 1) s 0 := by
    have := heap_alloc_new (w.alloc (.cells #[.int .i64 0, .string ⟨#[]⟩, .slice none 0 0] 92)) (.cells #[.string s, .int .i64 0, .bool false] 262)
    rw [show (w.alloc (.cells #[.int .i64 0, .string ⟨#[]⟩, .slice none 0 0] 92)).heap.size = w.heap.size + 1 by simp] at this
    exact this
  have HT1 := As.mk hT1
  have HTB := As.mk hTB
  have HCK := As.mk hck
  have HWT := As.mk hwt
  have HRB := As.mk ((Below.heap_alloc (w.alloc (.cells #[.int .i64 0, .string ⟨#[]⟩, .slice none 0 0] 92)) (.cells #[.string s, .int .i64 0, .bool false] 262) w.heap.size (by simp)).trans (heap_alloc_new w _))
  clear hn hT1 hTB hck hwt f1 f2 a1 a2 a3 hc0
  go_enter Tryz.func164, Tryz.ntmps164
  go_wp2_with (first | (go_at_call 192; refine (HAL.out _ _ (HTB.out.pure HU1.out)).mono ?_; rintro e w2 ⟨nb, rfl, hnm, hnb, hT, hu⟩; have HNM := As.mk hnm; have HNB := As.mk hnb; have HT2 := As.mk hT; have HU2 := As.mk hu; clear hnm hnb hT hu; apply As.out) | (go_at_call 191; refine (HP0.out _ _ HTB.out).mono ?_; rintro e w1 ⟨rfl, hu⟩; have HU1 := As.mk hu; clear hu))
  refine ⟨?_⟩
  have hz1 := HU1.out.size
  simp at hz1
  have hz2 := HU2.out.size
  have hnb0 := HNB.out
  have hrb2 := (HU2.out.block w.heap.size (by omega) (by omega)).trans ((HU1.out.block w.heap.size (by simp; omega) (fun h => h)).trans HRB.out)
  have HRB2 := As.mk hrb2
  obtain ⟨⟨r0, r1, r2⟩, ⟨rf0, rf1, rf2⟩, hrl⟩ := cells3P hrb2
  have HNMb := As.mk (Array.getElem?_eq_some_iff.1 HNM.out).1
  obtain ⟨⟨c0', c1', c2'⟩, pf1, htb2⟩ := HT2.out.cells
  have HP02 := As.mk (show Pure w w2 from (HT1.out.trans HU1.out (fun _ _ h => h)).trans HU2.out (fun q hq h => by omega))
  clear hrb2
  generalize hW : w2.alloc (.cells #[.int .i64 kk, .string ⟨#[]⟩, .slice (some ⟨nb, 0, none⟩) 1 1] 92) = W
  have hPW : Pure w2 W := hW ▸ Upd.alloc1 _ _ _
  have HPW := As.mk hPW
  have HPWW := As.mk (HP02.out.trans hPW (fun _ _ h => h))
  have HTW := As.mk (HT2.out.pure hPW)
  have HE := As.mk (show W.heap[w2.heap.size]? = some (.cells #[.int .i64 kk, .string ⟨#[]⟩, .slice (some ⟨nb, 0, none⟩) 1 1] 92 (0, 0)) from hW ▸ heap_alloc_new _ _)
  have HNW := As.mk (show NameB W nb (s.extract 0 m) from (hPW.block nb HNMb.out (fun h => h)).trans HNM.out)
  have HRBW := As.mk ((hPW.block w.heap.size hrl (fun h => h)).trans HRB2.out)
  clear hPW r0 r1 r2 rf0 rf1 rf2 c0' c1' c2' pf1
  obtain ⟨⟨c0', c1', c2'⟩, pf1, htb3⟩ := HTW.out.cells
  go_wp2_with (go_at_call 191; refine (HPE.out _ _ HTW.out).mono ?_; rintro e w3 ⟨rfl, hu⟩; have HU3 := As.mk hu; clear hu; apply As.out)
  refine ⟨?_⟩
  obtain ⟨⟨e0, e1, e2'⟩, _, hel⟩ := cells3P ((HU3.out.block _ (Array.getElem?_eq_some_iff.1 HE.out).1 (fun h => h)).trans HE.out)
  have HN3 := As.mk (show NameB w3 nb (s.extract 0 m) from (HU3.out.block nb (Array.getElem?_eq_some_iff.1 HNW.out).1 (fun h => h)).trans HNW.out)
  have HC3 := As.mk (show Calls Tryz.prog 168 #[.agg #[.int .i64 kk, .string ⟨#[]⟩, .slice (some ⟨nb, 0, none⟩) 1 1]] w3 fun r w' => r = .returned (.int .i64 0) ∧ Pure w3 w' from HCK.out ▸ exprCheck5_calls (e := .mk kk ⟨#[]⟩ [.mk 1 (s.extract 0 m) []]) (A := some ⟨nb, 0, none⟩) (c := 1) (F := fun _ => True) (name_row HN3.out trivial) HWT.out)
  go_wp2_with (go_at_call 168; refine HC3.out.mono ?_; rintro e w4 ⟨rfl, hu⟩; have HU4 := As.mk (HU3.out.trans hu (fun _ _ h => h)); clear hu; apply As.out)
  refine ⟨?_⟩
  clear e0 e1 e2'
  obtain ⟨⟨e0, e1, e2'⟩, _, hel4⟩ := cells3P ((HU4.out.block _ (Array.getElem?_eq_some_iff.1 HE.out).1 (fun h => h)).trans HE.out)
  have hrb4 := (HU4.out.block w.heap.size (Array.getElem?_eq_some_iff.1 HRBW.out).1 (fun h => h)).trans HRBW.out
  obtain ⟨⟨r0, r1, r2⟩, ⟨rf0, rf1, rf2⟩, hrl4⟩ := cells3P hrb4
  clear hrb4
  go_wp2
  exact bodyPost_ret (v := .tuple #[.agg #[.int .i64 kk, .string ⟨#[]⟩, .slice (some ⟨nb, 0, none⟩) 1 1], .int .i64 s.size, .int .i64 0]) (by simp [results, Tryz.results164, go_sem, r0, r1, r2, rf0, rf1, rf2]) rfl ⟨some ⟨nb, 0, none⟩, 1, rfl, Nat.le_refl _, name_row (show NameB _ nb (s.extract 0 m) from by
    have hn4 := (HU4.out.block nb (Array.getElem?_eq_some_iff.1 HNW.out).1 (fun h => h)).trans HNW.out
    exact ((set3U w4 w.heap.size _ _ _).block nb (Array.getElem?_eq_some_iff.1 hn4).1 (by omega)).trans hn4) (by omega), (HPWW.out.trans HU4.out (fun _ _ h => h)).trans (set3U w4 w.heap.size _ _ _) (fun q hq h => by omega)⟩
set_option maxRecDepth 100000 in
set_option maxHeartbeats 4000000 in
theorem parse6_empty : Parses6 ⟨#[]⟩ (.mk 0 ⟨#[]⟩ []) := by
  intro w
  have hT1 : Pure w ((w.alloc (.cells #[.int .i64 0, .string ⟨#[]⟩, .slice none 0 0] 92)).alloc (.cells #[.string ⟨#[]⟩, .int .i64 0, .bool false] 262)) := (Upd.alloc1 _ _ _).alloc _
  have hTB : PB ((w.alloc (.cells #[.int .i64 0, .string ⟨#[]⟩, .slice none 0 0] 92)).alloc (.cells #[.string ⟨#[]⟩, .int .i64 0, .bool false] 262)) (w.heap.size + 1) ⟨#[]⟩ 0 := by
    have := heap_alloc_new (w.alloc (.cells #[.int .i64 0, .string ⟨#[]⟩, .slice none 0 0] 92)) (.cells #[.string ⟨#[]⟩, .int .i64 0, .bool false] 262)
    rw [show (w.alloc (.cells #[.int .i64 0, .string ⟨#[]⟩, .slice none 0 0] 92)).heap.size = w.heap.size + 1 by simp] at this
    exact this
  have HPE := As.mk (peek_end (s := ⟨#[]⟩) hTB (by decide))
  have HT1 := As.mk hT1
  have HRB := As.mk ((Below.heap_alloc (w.alloc (.cells #[.int .i64 0, .string ⟨#[]⟩, .slice none 0 0] 92)) (.cells #[.string ⟨#[]⟩, .int .i64 0, .bool false] 262) w.heap.size (by simp)).trans (heap_alloc_new w _))
  clear hT1 hTB
  go_enter Tryz.func164, Tryz.ntmps164
  go_wp2_with (go_at_call 191; refine HPE.out.mono ?_; rintro e w1 ⟨rfl, hu⟩; have HU1 := As.mk hu; clear hu; apply As.out)
  refine ⟨?_⟩
  have hz1 := HU1.out.size
  simp at hz1
  have hrb1 := (HU1.out.block w.heap.size (by simp; omega) (fun h => h)).trans HRB.out
  obtain ⟨⟨r0, r1, r2⟩, ⟨rf0, rf1, rf2⟩, hrl⟩ := cells3P hrb1
  clear hrb1
  go_wp2
  exact bodyPost_ret (v := .tuple #[.agg #[.int .i64 0, .string ⟨#[]⟩, .slice none 0 0], .int .i64 0, .int .i64 0]) (by simp [results, Tryz.results164, go_sem, r0, r1, r2, rf0, rf1, rf2]) rfl ⟨none, 0, rfl, Nat.le_refl _, .inl rfl, (HT1.out.trans HU1.out (fun _ _ h => h)).trans (set3U w1 w.heap.size _ _ _) (fun q hq h => by omega)⟩
end Go.Proofs.YtofjodppljnlaaaGreatDoor
namespace Go.Proofs.YtofjodppljnlaaaGreatDoor
open Go.RowKit
set_option linter.unusedVariables false
set_option linter.unusedSimpArgs false
set_option maxRecDepth 100000 in
set_option maxHeartbeats 4000000 in
theorem parse7_calls {w : World} {G : Nat → Prop} {B : Option Addr} {d : Nat} {g : List Grp} {s : ByteArray} {e : Ex} (hp : Parses6 s e) (hg : grpR.row w G B g) (hc : regCheck e g = 0) (hwt : e.wt ≤ 1048576 * 4) (hgl : g.length ≤ 1048576) (hgt : ∀ x ∈ g, x.types.length ≤ 1048576) :
    Calls Tryz.prog 127 #[.string s, .slice B g.length d] w fun r w' => ∃ A c, r = .returned (.tuple #[e.val A c, .int .i64 0]) ∧ e.l.length ≤ c ∧ exR.row w' (fun k => w.heap.size ≤ k) A e.l ∧ Pure w w' := by
  have HP := As.mk hp
  have HCK := As.mk (fun W A c (F : Nat → Prop) (hr : exR.row W F A e.l) (hu : Pure w W) => hc ▸ regCheck6_calls (c := c) (d := d) hr (Rp.row_pure hg hu) hwt hgl hgt)
  have HRB := As.mk (heap_alloc_new w (.cells #[.int .i64 0, .string ⟨#[]⟩, .slice none 0 0] 92))
  have hT1 : Pure w (w.alloc (.cells #[.int .i64 0, .string ⟨#[]⟩, .slice none 0 0] 92)) := Upd.alloc1 _ _ _
  have HT1 := As.mk hT1
  clear hp hg hc hwt hgt hT1
  obtain ⟨k0, nm, l⟩ := e
  unfold Ex.val at *
  go_enter Tryz.func127, Tryz.ntmps127
  go_wp2_with (go_at_call 164; refine (HP.out _).mono ?_; rintro e w1 ⟨A, c, rfl, hle, hr, hu⟩; have HR1 := As.mk hr; have HU1 := As.mk hu; have HLE := As.mk hle; clear hr hu hle; apply As.out)
  refine ⟨?_⟩
  have hz1 := HU1.out.size
  simp at hz1
  have hrb1 := (HU1.out.block w.heap.size (by simp) (fun h => h)).trans HRB.out
  generalize hW : w1.alloc (.cells #[.int .i64 k0, .string nm, .slice A l.length c] 92) = W
  have hPW : Pure w1 W := hW ▸ Upd.alloc1 _ _ _
  have HE := As.mk (show W.heap[w1.heap.size]? = some (.cells #[.int .i64 k0, .string nm, .slice A l.length c] 92 (0, 0)) from hW ▸ heap_alloc_new _ _)
  have HRW := As.mk (Rp.row_pure HR1.out hPW)
  have HPW := As.mk ((HT1.out.trans HU1.out (fun _ _ h => h)).trans hPW (fun _ _ h => h))
  have HRBW := As.mk ((hPW.block w.heap.size (by omega) (fun h => h)).trans hrb1)
  obtain ⟨⟨e0, e1, e2⟩, _, hel⟩ := cells3P HE.out
  clear hPW hrb1
  go_wp2_with (go_at_call 133; refine (HCK.out _ _ _ _ HRW.out HPW.out).mono ?_; rintro e w2 ⟨rfl, hu⟩; have HU2 := As.mk hu; clear hu; apply As.out)
  refine ⟨?_⟩
  clear e0 e1 e2
  obtain ⟨⟨e0, e1, e2⟩, _, hel2⟩ := cells3P ((HU2.out.block _ hel (fun h => h)).trans HE.out)
  have hrb4 := (HU2.out.block w.heap.size (Array.getElem?_eq_some_iff.1 HRBW.out).1 (fun h => h)).trans HRBW.out
  obtain ⟨⟨r0, r1, r2⟩, ⟨rf0, rf1, rf2⟩, hrl4⟩ := cells3P hrb4
  clear hrb4
  go_wp2
  exact bodyPost_ret (v := .tuple #[.agg #[.int .i64 k0, .string nm, .slice A l.length c], .int .i64 0]) (by simp [results, Tryz.results127, go_sem, r0, r1, r2, rf0, rf1, rf2]) rfl ⟨A, c, rfl, HLE.out, Rp.row_fp (Rp.row_upd (Rp.row_pure HRW.out HU2.out) (set3U w2 w.heap.size _ _ _) (fun k _ hk h => by simp at hk; omega)) (fun k hk => by simp at hk; omega), (HPW.out.trans HU2.out (fun _ _ h => h)).trans (set3U w2 w.heap.size _ _ _) (fun q hq h => by omega)⟩
theorem str6_info : (Tryz.prog.info? 9).map (fun i => (i.zero, i.size, i.bytes)) = some (some (.string ⟨#[]⟩), 1, 16) := by kernel_rfl
theorem str_at {w : World} {F : Nat → Prop} {A : Option Addr} {xs : List ByteArray} (h : Rp.string.row w F A xs) {j : Nat} {x : ByteArray} (hx : xs[j]? = some x) :
    ∃ b o, A = some ⟨b, o, none⟩ ∧ F b ∧ b < w.heap.size ∧ w.cell? ⟨b, o + j, none⟩ = some (.string x) := by
  obtain ⟨b, o, cs, hA, hF, hb, hr, hc⟩ := Rp.row_at h hx
  have hr' : cs = [.string x] := hr
  subst hr'
  have := hc 0 _ rfl
  rw [show (Rp.string.sz) = 1 from rfl, Nat.mul_one] at this
  exact ⟨b, o, hA, hF, hb, this⟩
theorem getD_of6 {α : Type} {l : List α} {i : Nat} {x d : α} (h : l[i]? = some x) : l.getD i d = x := by simp [List.getD, h]
/-- Names that may be, none twice. -/
def okNames (names : List ByteArray) : Bool := (List.range names.length).all (fun i => nameB (names.getD i ⟨#[]⟩) && !decide (names.getD i ⟨#[]⟩ = textName) && (List.range i).all (fun k => !decide (names.getD k ⟨#[]⟩ = names.getD i ⟨#[]⟩)))
theorem okNames_at {names : List ByteArray} (h : okNames names = true) {i : Nat} {x : ByteArray} (hx : names[i]? = some x) : nameB x = true ∧ x ≠ textName ∧ ∀ k y, k < i → names[k]? = some y → y ≠ x := by
  unfold okNames at h
  rw [List.all_eq_true] at h
  have h1 := h i (List.mem_range.2 (List.getElem?_eq_some_iff.1 hx).1)
  rw [getD_of6 hx] at h1
  simp only [Bool.and_eq_true, Bool.not_eq_true', decide_eq_false_iff_not] at h1
  refine ⟨h1.1.1, h1.1.2, fun k y hk hy e => ?_⟩
  have h2 := List.all_eq_true.1 h1.2 k (List.mem_range.2 hk)
  rw [getD_of6 hy] at h2
  simp [e] at h2
set_option maxRecDepth 100000 in
set_option maxHeartbeats 4000000 in
theorem twice_calls {w : World} {F G : Nat → Prop} {A Bg : Option Addr} {c d : Nat} {l : List Spec} {g : List Grp} (hr : specR.row w F A l) (hg : grpR.row w G Bg g) (hl : l.length ≤ 1000) (hgl : g.length ≤ 1000) (hsz : ∀ x ∈ l.map (·.name) ++ g.map (·.name), x.size ≤ 1048576 * 4) (hok : okNames (l.map (·.name) ++ g.map (·.name)) = true) :
    Calls Tryz.prog 126 #[.slice A l.length c, .slice Bg g.length d] w fun r w' => r = .returned (.bool false) ∧ Pure w w' := by
  have HR := As.mk hr
  have HG := As.mk hg
  have HSZ := As.mk hsz
  have HOK := As.mk (fun i x (hx : (l.map (·.name) ++ g.map (·.name))[i]? = some x) => okNames_at hok hx)
  have HLN := As.mk (show (l.map (·.name) ++ g.map (·.name)).length = l.length + g.length by simp)
  clear hr hg hsz hok
  go_enter Tryz.func126, Tryz.ntmps126
  go_wp2
  go_loopg [6, 5] l.length (fun gg i v wr => ∃ k : Nat, k + gg = l.length ∧ i = .int .i64 k ∧ As (Rp.string.own 9 wr (fun q => w.heap.size ≤ q) v ((l.map (·.name)).take k)) ∧ As (Pure w wr))
  case atStart => exact ⟨0, by omega, rfl, ⟨Rp.own_nil _ _ _ _⟩, ⟨Upd.refl _ _⟩⟩
  case round =>
    obtain ⟨k, hk, rfl, HO, HP⟩ := hrel
    by_cases hlt : k < l.length
    · obtain ⟨Av, cv, rfl, _, _⟩ := Rp.own_slice HO.out
      obtain ⟨x, hx⟩ : ∃ x, l[k]? = some x := ⟨_, List.getElem?_eq_getElem hlt⟩
      obtain ⟨bx, ox, rfl, hFb, hbb, d0, d1, d2, d3, d4, d5, d6⟩ := spec_at (Rp.row_pure HR.out HP.out) hx
      obtain ⟨g1, rfl⟩ : ∃ m, gk = m + 1 := ⟨gk - 1, by omega⟩
      have HK := As.mk hk
      have HT := As.mk (show (l.map (·.name)).take (k + 1) = (l.map (·.name)).take k ++ [x.name] by rw [List.take_add_one, List.getElem?_map, hx]; rfl)
      have hlk : ((l.map (·.name)).take k).length ≤ 1000 := by rw [List.length_take]; omega
      clear hk hx
      go_wp2_with (at_builtin; refine Rp.own_append Rp.string HO.out x.name [.string x.name] rfl (Fp := fun _ => False) (G := fun q => w.heap.size ≤ q) (fun _ h => h.elim) (fun _ h _ => h) (fun q hq => by have := HP.out.size; omega) rfl _ _ 217 _ 16 rfl Tryz.underlying217 str6_info rfl (by decide) (by decide) rfl (by simp [Act.eval]) (by omega) ?_; intro v1 w1 ho1 hu1; rw [← HT.out] at ho1; have HO1 := As.mk ho1; have HU1 := As.mk (Upd.trans HP.out hu1 (fun q hq h => by have := (Rp.own_block_lt HO.out q h).1; omega)); clear ho1 hu1)
      go_roundg g1
      case measure => omega
      case rel => exact ⟨k + 1, by have := HK.out; omega, by go_num, HO1, HU1⟩
    · have hkl : k = l.length := by omega
      subst hkl
      rw [List.take_of_length_le (by simp)] at HO
      go_wp2
      go_loopg [7, 5] g.length (fun gg i v wr => ∃ k : Nat, k + gg = g.length ∧ i = .int .i64 k ∧ As (Rp.string.own 9 wr (fun q => w.heap.size ≤ q) v (l.map (·.name) ++ (g.map (·.name)).take k)) ∧ As (Pure w wr))
      case atStart => exact ⟨0, by omega, rfl, ⟨by rw [List.take_zero, List.append_nil]; exact HO.out⟩, HP⟩
      case round =>
        clear HO HP
        obtain ⟨k, hk, rfl, HO, HP⟩ := hrel
        by_cases hlt2 : k < g.length
        · obtain ⟨Av, cv, rfl, _, hrow⟩ := Rp.own_slice HO.out
          obtain ⟨x, hx⟩ : ∃ x, g[k]? = some x := ⟨_, List.getElem?_eq_getElem hlt2⟩
          obtain ⟨bx, ox, A1, c1, rfl, hFb, hbb, d0, d1, hle1, hrow1⟩ := grp_at (Rp.row_pure HG.out HP.out) hx
          obtain ⟨g1, rfl⟩ : ∃ m, gk = m + 1 := ⟨gk - 1, by omega⟩
          have HK := As.mk hk
          have HT := As.mk (show l.map (·.name) ++ (g.map (·.name)).take (k + 1) = (l.map (·.name) ++ (g.map (·.name)).take k) ++ [x.name] by rw [List.take_add_one, List.getElem?_map, hx]; simp)
          have hlk : (l.map (·.name) ++ (g.map (·.name)).take k).length ≤ 2000 := by rw [List.length_append, List.length_take, List.length_map]; omega
          clear hk hx hrow1 hrow
          go_wp2_with (at_builtin; refine Rp.own_append Rp.string HO.out x.name [.string x.name] rfl (Fp := fun _ => False) (G := fun q => w.heap.size ≤ q) (fun _ h => h.elim) (fun _ h _ => h) (fun q hq => by have := HP.out.size; omega) rfl _ _ 217 _ 16 rfl Tryz.underlying217 str6_info rfl (by decide) (by decide) rfl (by simp [Act.eval]) (by omega) ?_; intro v1 w1 ho1 hu1; rw [← HT.out] at ho1; have HO1 := As.mk ho1; have HU1 := As.mk (Upd.trans HP.out hu1 (fun q hq h => by have := (Rp.own_block_lt HO.out q h).1; omega)); clear ho1 hu1)
          go_roundg g1
          case measure => omega
          case rel => exact ⟨k + 1, by have := HK.out; omega, by go_num, HO1, HU1⟩
        · have hkl : k = g.length := by omega
          subst hkl
          rw [List.take_of_length_le (by simp)] at HO
          obtain ⟨Av, cv, rfl, _, hrow⟩ := Rp.own_slice HO.out
          have HRW := As.mk hrow
          clear hrow
          generalize hnm : l.map (·.name) ++ g.map (·.name) = names at *
          have hnml : names.length ≤ 2000 := by rw [HLN.out]; omega
          clear HO hnm
          go_wp2
          go_loopg [8] names.length (fun gg i wx => ∃ k : Nat, k + gg = names.length ∧ i = .int .i64 k ∧ As (Rp.string.row wx (fun q => w.heap.size ≤ q) Av names ∧ Pure w wx))
          case atStart => exact ⟨0, by omega, rfl, ⟨HRW.out, HP.out⟩⟩
          case round =>
            obtain ⟨k, hk, rfl, HPx⟩ := hrel
            by_cases hlt3 : k < names.length
            · obtain ⟨x, hx⟩ : ∃ x, names[k]? = some x := ⟨_, List.getElem?_eq_getElem hlt3⟩
              obtain ⟨bx, ox, rfl, _, _, d0⟩ := str_at HPx.out.1 hx
              obtain ⟨g1, rfl⟩ : ∃ m, gk = m + 1 := ⟨gk - 1, by omega⟩
              obtain ⟨o1, o2, o3⟩ := HOK.out k x hx
              have HLT := As.mk (fun W : World => o1 ▸ Letters_calls x W (HSZ.out x (List.mem_of_getElem? hx)))
              have hne : (x.toList == [116, 101, 120, 116]) = false := by
                have h := bytes_ne o2
                rwa [show textName.toList = [116, 101, 120, 116] by rw [ByteArray.toList_eq]; rfl] at h
              have HO3 := As.mk o3
              have HX := As.mk hx
              have HK := As.mk hk
              clear o1 o2 o3 hx hk HRW
              go_wp2_with (go_at_call 163; refine (HLT.out _).mono ?_; rintro e w2 ⟨rfl, hu⟩; have HU2 := As.mk (And.intro (Rp.row_pure HPx.out.1 hu) (HPx.out.2.trans hu (fun _ _ h => h))); clear hu; apply As.out)
              refine ⟨?_⟩
              clear d0
              obtain ⟨bx', ox', hbo, _, _, d0⟩ := str_at HU2.out.1 HX.out
              obtain ⟨rfl, rfl⟩ : bx = bx' ∧ ox = ox' := by simpa using hbo
              clear hbo
              go_wp2
              go_loopg [9] k (fun g2 j wy => ∃ q : Nat, q + g2 = k ∧ j = .int .i64 q ∧ As (Rp.string.row wy (fun q => w.heap.size ≤ q) (some ⟨bx, ox, none⟩) names ∧ Pure w wy))
              case atStart => exact ⟨0, by omega, rfl, HU2⟩
              case round =>
                obtain ⟨q, hq, rfl, HPy⟩ := hrel
                by_cases hlq : q < k
                · obtain ⟨y, hy⟩ : ∃ y, names[q]? = some y := ⟨_, List.getElem?_eq_getElem (by omega)⟩
                  obtain ⟨b1, o1, hb1, _, _, e0⟩ := str_at HPy.out.1 hy
                  obtain ⟨rfl, rfl⟩ : bx = b1 ∧ ox = o1 := by simpa using hb1
                  obtain ⟨b2, o2, hb2, _, _, e1⟩ := str_at HPy.out.1 HX.out
                  obtain ⟨rfl, rfl⟩ : bx = b2 ∧ ox = o2 := by simpa using hb2
                  obtain ⟨g2, rfl⟩ : ∃ m, gk = m + 1 := ⟨gk - 1, by omega⟩
                  have hne2 := bytes_ne (HO3.out q y hlq hy)
                  have hql : q < names.length := by omega
                  have HQ := As.mk hq
                  clear hb1 hb2 hy hq d0
                  go_wp2
                  go_region
                  all_goals go_wp2
                  all_goals go_roundg g2
                  all_goals first
                    | (case measure => omega)
                    | (case rel => exact ⟨q + 1, by have := HQ.out; omega, by go_num, ⟨Rp.row_pure HPy.out.1 ((Upd.refl _ _).drew), HPy.out.2.drew⟩⟩)
                · have hqk : q = k := by omega
                  subst hqk
                  go_wp2
                  go_roundg g1
                  case measure => omega
                  case rel => exact ⟨q + 1, by have := HK.out; omega, by go_num, HPy⟩
            · have hkn : k = names.length := by omega
              subst hkn
              go_wp2
              go_ret
              exact ⟨rfl, HPx.out.2⟩
end Go.Proofs.YtofjodppljnlaaaGreatDoor
namespace Go.Proofs.YtofjodppljnlaaaGreatDoor
open Go.RowKit
set_option linter.unusedVariables false
set_option linter.unusedSimpArgs false
theorem ownsRow_setN {w : World} {e : TypeId} {g len cap n size : Nat} {xs : List Value} (h : w.ownsRow 0 e size (.slice (some ⟨g, 0, none⟩) len cap) len xs) (u : Value) :
    (w.setCell ⟨g, n, none⟩ u).ownsRow 0 e size (.slice (some ⟨g, 0, none⟩) len cap) len (xs.set n u) := by
  obtain ⟨h1, h2⟩ := h
  refine ⟨by simpa using h1, ?_⟩
  rcases h2 with ⟨h2, _⟩ | ⟨g', cap', cur, hv, hb, hg, hle, hcm, hcs, htake⟩
  · cases h2
  · simp at hv
    obtain ⟨rfl, rfl⟩ := hv
    refine .inr ⟨g, cap, cur.setIfInBounds n u, rfl, hb, by simp [World.setCell, Array.getElem?_modify, hg], hle, hcm, by simpa using hcs, ?_⟩
    rw [Array.toList_setIfInBounds, ← htake, List.take_set]
theorem set3_drop (L : List Value) (n j : Nat) (c0 c1 c2 : Value) (hj : j < n) : ((((L.set (n * 3) c0).set (n * 3 + 1) c1).set (n * 3 + 2) c2).drop (j * 3)).take 3 = (L.drop (j * 3)).take 3 := by
  apply List.ext_getElem?
  intro i
  simp only [List.getElem?_take, List.getElem?_drop, List.getElem?_set]
  split
  · rw [if_neg (by omega), if_neg (by omega), if_neg (by omega)]
  · rfl
theorem set3_last (L : List Value) (n : Nat) (c0 c1 c2 : Value) (hL : L.length = (n + 1) * 3) : ((((L.set (n * 3) c0).set (n * 3 + 1) c1).set (n * 3 + 2) c2).drop (n * 3)).take 3 = [c0, c1, c2] := by
  apply List.ext_getElem?
  intro i
  simp only [List.getElem?_take, List.getElem?_drop, List.getElem?_set, List.length_set]
  by_cases h : i < 3
  · rw [if_pos h]
    have : i = 0 ∨ i = 1 ∨ i = 2 := by omega
    rcases this with rfl | rfl | rfl
    · rw [if_neg (by omega), if_neg (by omega), if_pos (by omega), if_pos (by omega)]; rfl
    · rw [if_neg (by omega), if_pos (by omega), if_pos (by omega)]; rfl
    · rw [if_pos (by omega), if_pos (by omega)]; rfl
  · rw [if_neg h]
    symm
    apply List.getElem?_eq_none
    simp; omega
theorem own_last3 {w : World} {e : TypeId} {F Fp : Nat → Prop} {b cap c1 : Nat} {init : List Ex} {z : Ex} {k : Int} {nm : ByteArray} {l : List Ex} {A1 : Option Addr} (h : exR.own e w F (.slice (some ⟨b, 0, none⟩) (init.length + 1) cap) (init ++ [z])) (hr : exR.row w Fp A1 l) (hFp : ∀ q, Fp q → F q ∧ q ≠ b) (hl : l.length ≤ c1) :
    exR.own e (((w.setCell ⟨b, init.length * 3, none⟩ (.int .i64 k)).setCell ⟨b, init.length * 3 + 1, none⟩ (.string nm)).setCell ⟨b, init.length * 3 + 2, none⟩ (.slice A1 l.length c1)) F (.slice (some ⟨b, 0, none⟩) (init.length + 1) cap) (init ++ [.mk k nm l]) := by
  obtain ⟨inner, ho, hF, hrep⟩ := h
  have hu : Upd (fun q => q = b) w (((w.setCell ⟨b, init.length * 3, none⟩ (.int .i64 k)).setCell ⟨b, init.length * 3 + 1, none⟩ (.string nm)).setCell ⟨b, init.length * 3 + 2, none⟩ (.slice A1 l.length c1)) :=
    (((Upd.refl (fun q => q = b) w).setCell (p := ⟨b, init.length * 3, none⟩) (fun _ => rfl) _).setCell (p := ⟨b, init.length * 3 + 1, none⟩) (fun _ => rfl) _).setCell (p := ⟨b, init.length * 3 + 2, none⟩) (fun _ => rfl) _
  have hsz : exR.sz = 3 := rfl
  have hl1 : (init ++ [z]).length = init.length + 1 := by simp
  have hl2 : (init ++ [Ex.mk k nm l]).length = init.length + 1 := by simp
  rw [hl1, hsz] at ho
  have hil : inner.length = (init.length + 1) * 3 := ho.1
  refine ⟨((inner.set (init.length * 3) (.int .i64 k)).set (init.length * 3 + 1) (.string nm)).set (init.length * 3 + 2) (.slice A1 l.length c1), ?_, hF, ⟨by simp only [List.length_set]; rw [hil, hl2, hsz], fun j x hx => ?_⟩⟩
  · rw [hl2, hsz]
    exact ownsRow_setN (ownsRow_setN (ownsRow_setN ho _) _) _
  · rw [hsz]
    by_cases hj : j < init.length
    · rw [set3_drop _ _ _ _ _ _ hj]
      rw [List.getElem?_append_left hj] at hx
      have h1 := hrep.2 j x (by rw [List.getElem?_append_left hj]; exact hx)
      rw [hsz] at h1
      exact exR.move (fun q hq hql => ⟨hq, Nat.lt_of_lt_of_le hql hu.size, hu.block q hql (fun e => hq.2 (by rw [e]; rfl))⟩) h1
    · have hjl : j < (init ++ [Ex.mk k nm l]).length := (List.getElem?_eq_some_iff.1 hx).1
      obtain rfl : j = init.length := by omega
      rw [List.getElem?_append_right (Nat.le_refl _), Nat.sub_self] at hx
      cases hx
      rw [set3_last _ _ _ _ _ hil]
      refine ExRep.of_parts hl (Rp.row_move (fun q hq hql => ⟨⟨(hFp q hq).1, fun e => (hFp q hq).2 (by injection e)⟩, Nat.lt_of_lt_of_le hql hu.size, hu.block q hql (hFp q hq).2⟩) hr)
theorem own_cellN {w : World} {e : TypeId} {g n cap size : Nat} {inner : List Value} (h : w.ownsRow 0 e size (.slice (some ⟨g, 0, none⟩) n cap) n inner) {i : Nat} (hi : i < inner.length) :
    ∃ u, inner[i]? = some u ∧ w.cell? ⟨g, i, none⟩ = some u ∧ w.frozen? ⟨g, i, none⟩ = false ∧ g < w.heap.size := by
  obtain ⟨u, hu⟩ : ∃ u, inner[i]? = some u := ⟨_, List.getElem?_eq_getElem hi⟩
  rcases h.2 with ⟨h, _⟩ | ⟨g', cap', cur, hv, _, hg, hle, _, hcs, htake⟩
  · cases h
  · simp at hv
    obtain ⟨rfl, rfl⟩ := hv
    have h2 := hu
    rw [← htake, List.getElem?_take] at h2
    split at h2
    · exact ⟨u, hu, by unfold World.cell?; simp only [hg]; simpa using h2, by simp [World.frozen?, hg], (Array.getElem?_eq_some_iff.1 hg).1⟩
    · cases h2
theorem own_last_cells {w : World} {e : TypeId} {F : Nat → Prop} {b cap : Nat} {init : List Ex} {z : Ex} (h : exR.own e w F (.slice (some ⟨b, 0, none⟩) (init.length + 1) cap) (init ++ [z])) :
    (∃ u0 u1 u2, w.cell? ⟨b, init.length * 3, none⟩ = some u0 ∧ w.cell? ⟨b, init.length * 3 + 1, none⟩ = some u1 ∧ w.cell? ⟨b, init.length * 3 + 2, none⟩ = some u2) ∧ (w.frozen? ⟨b, init.length * 3, none⟩ = false ∧ w.frozen? ⟨b, init.length * 3 + 1, none⟩ = false ∧ w.frozen? ⟨b, init.length * 3 + 2, none⟩ = false) ∧ b < w.heap.size := by
  obtain ⟨inner, ho, _, _⟩ := h
  have hl1 : (init ++ [z]).length = init.length + 1 := by simp
  have hsz : exR.sz = 3 := rfl
  rw [hl1, hsz] at ho
  have hil : inner.length = (init.length + 1) * 3 := ho.1
  obtain ⟨u0, _, a1, a2, a3⟩ := own_cellN ho (i := init.length * 3) (by omega)
  obtain ⟨u1, _, b1, b2, _⟩ := own_cellN ho (i := init.length * 3 + 1) (by omega)
  obtain ⟨u2, _, c1, c2, _⟩ := own_cellN ho (i := init.length * 3 + 2) (by omega)
  exact ⟨⟨u0, u1, u2, a1, b1, c1⟩, ⟨a2, b2, c2⟩, a3⟩
theorem own_formE {w : World} {e : TypeId} {F : Nat → Prop} {v : Value} {init : List Ex} {z : Ex} (h : exR.own e w F v (init ++ [z])) : ∃ g cap, v = .slice (some ⟨g, 0, none⟩) (init.length + 1) cap := by
  obtain ⟨inner, ho, _, _⟩ := h
  have hl1 : (init ++ [z]).length = init.length + 1 := by simp
  rw [hl1] at ho
  obtain ⟨g, cap, hv, _⟩ := ho.form (by omega)
  exact ⟨g, cap, hv⟩
end Go.Proofs.YtofjodppljnlaaaGreatDoor
namespace Go.Proofs.YtofjodppljnlaaaGreatDoor
open Go.RowKit
set_option linter.unusedVariables false
set_option linter.unusedSimpArgs false
/-- The schema while its expressions are parsed. -/
structure NewS (W : World) (cb tb : Nat) (c0v c1v c2v c3v c5v Ev : Value) (es : List Ex) (wx : World) : Prop where
  up : Upd (fun q => q = cb ∨ q = tb) W wx
  hc : wx.heap[cb]? = some (.cells #[c0v, c1v, c2v, c3v, Ev, c5v] 105 (0, 0))
  ht : ∃ y0 y1 y2, wx.heap[tb]? = some (.cells #[y0, y1, y2] 92 (0, 0))
  own : exR.own 92 wx (fun q => W.heap.size ≤ q) Ev es
theorem NewS.pure {W : World} {cb tb : Nat} {c0v c1v c2v c3v c5v Ev : Value} {es : List Ex} {wx w2 : World} (h : NewS W cb tb c0v c1v c2v c3v c5v Ev es wx) (hu : Pure wx w2) : NewS W cb tb c0v c1v c2v c3v c5v Ev es w2 := by
  obtain ⟨y0, y1, y2, ht⟩ := h.ht
  exact ⟨h.up.trans hu (fun _ _ h => h.elim), (hu.block _ (Array.getElem?_eq_some_iff.1 h.hc).1 (fun h => h)).trans h.hc, ⟨y0, y1, y2, (hu.block _ (Array.getElem?_eq_some_iff.1 ht).1 (fun h => h)).trans ht⟩, Rp.own_upd h.own hu (fun _ _ _ h => h)⟩
theorem cells6 {w : World} {b : Nat} {x0 x1 x2 x3 x4 x5 : Value} {t : TypeId} (h : w.heap[b]? = some (.cells #[x0, x1, x2, x3, x4, x5] t (0, 0))) :
    (w.cell? ⟨b, 0, none⟩ = some x0 ∧ w.cell? ⟨b, 1, none⟩ = some x1 ∧ w.cell? ⟨b, 2, none⟩ = some x2 ∧ w.cell? ⟨b, 3, none⟩ = some x3 ∧ w.cell? ⟨b, 4, none⟩ = some x4 ∧ w.cell? ⟨b, 5, none⟩ = some x5) ∧ (∀ i, w.frozen? ⟨b, i, none⟩ = false) ∧ b < w.heap.size := by
  refine ⟨⟨?_, ?_, ?_, ?_, ?_, ?_⟩, fun i => by simp [World.frozen?, h], (Array.getElem?_eq_some_iff.1 h).1⟩
  all_goals (unfold World.cell?; simp only [h]; rfl)
end Go.Proofs.YtofjodppljnlaaaGreatDoor
namespace Go.Proofs.YtofjodppljnlaaaGreatDoor
open Go
section
variable {P : Program} {ops : Array Oper} {Q : Exit → Act → World → Prop} {md : Region.Mode} {S : World → Prop} {L : Nat}
def wpAnyV (P : Program) (md : Region.Mode) (ops : Array Oper) (Q : Exit → Act → World → Prop) (S : World → Prop) (L : Nat) : Nat → Array Bool → Act → World → Prop
  | 0, listed, a, w => Region.ready md ops listed = [] ∧ Q .normal a w
  | fuel + 1, listed, a, w =>
    (Region.ready md ops listed = [] → Q .normal a w) ∧
    ∀ i ∈ Region.ready md ops listed, wpOp P ops Q i (fun a' w' => (i ≠ L → S w → S w') ∧ wpAnyV P md ops Q S L fuel (listed.setIfInBounds i true) a' w') a w
theorem wpAny_of_V : ∀ (fuel : Nat) (listed : Array Bool) (a : Act) (w : World), wpAnyV P md ops Q S L fuel listed a w → wpAny P md ops Q fuel listed a w
  | 0, _, _, _, h => h
  | fuel + 1, _, _, _, h => ⟨h.1, fun i hi => wpOp_mono (fun a' w' h' => wpAny_of_V fuel _ a' w' h'.2) (h.2 i hi)⟩
theorem wpAnyV_first {i : Nat} {oi : Oper} {v : Value} (hi : ops[i]? = some oi) (hsel : ∀ (j : Nat) (o : Oper) cs b, ops[j]? = some o → o.op ≠ .select cs b)
    (hQ : ∀ c a w, Q (.panic c) (a.put oi.dst v) w → Q (.panic c) a w) (hL : ∃ oL, ops[L]? = some oL ∧ ∃ e ∈ oL.after, Region.binds md e = true ∧ e.on = i) :
    ∀ (fuel : Nat) (listed : Array Bool) (a : Act) (w : World),
      (∀ j oj, ops[j]? = some oj → j ≠ i → listed.getD j true = false → (∀ e ∈ oj.after, Region.binds md e = true → e.on ≠ i) → oi.apart ops oj = true) →
      i ∈ Region.ready md ops listed → YieldsIf P ops S oi v a → S w →
      wpAnyV P md ops Q S L fuel (listed.setIfInBounds i true) (a.put oi.dst v) w → wpAnyV P md ops Q S L (fuel + 1) listed a w := by
  have notL : ∀ (listed : Array Bool) (j : Nat), i ∈ Region.ready md ops listed → j ∈ Region.ready md ops listed → j ≠ L := by
    rintro listed j hr hj rfl
    obtain ⟨oL, hoL, e, he, hb, heq⟩ := hL
    obtain ⟨_, oj, hoj, hall⟩ := mem_ready.1 hj
    rw [hoL] at hoj
    cases hoj
    have h1 := hall e he hb
    have h0 := (mem_ready.1 hr).1
    rw [heq] at h1
    rcases Nat.lt_or_ge i listed.size with h' | h'
    · simp [h'] at h0 h1; rw [h0] at h1; cases h1
    · simp [Array.getElem?_eq_none h'] at h1
  intro fuel
  induction fuel with
  | zero =>
    intro listed a w _ hr hy hS H
    refine ⟨fun h => (by rw [h] at hr; cases hr), fun j hj => ?_⟩
    by_cases hji : j = i
    · subst hji; exact hy.wpOp hi hS ⟨fun _ h => h, H⟩
    · have := ready_mono hj hji
      rw [H.1] at this
      cases this
  | succ fuel ih =>
    intro listed a w hfree hr hy hS H
    refine ⟨fun h => (by rw [h] at hr; cases hr), fun j hj => ?_⟩
    by_cases hji : j = i
    · subst hji; exact hy.wpOp hi hS ⟨fun _ h => h, H⟩
    · have hjL := notL listed j hr hj
      have h1 := H.2 j (ready_mono hj hji)
      obtain ⟨hjun, oj, hoj, hall⟩ := mem_ready.1 hj
      have hnot : ∀ e ∈ oj.after, Region.binds md e = true → e.on ≠ i := fun e he hb heq => by
        have h1 := hall e he hb
        have h0 := (mem_ready.1 hr).1
        rw [heq] at h1
        rcases Nat.lt_or_ge i listed.size with h' | h'
        · simp [h'] at h0 h1; rw [h0] at h1; cases h1
        · simp [Array.getElem?_eq_none h'] at h1
      have h2 := wpOp_putIf hoj (hfree j oj hoj hji hjun hnot) (fun cs b => hsel i oi cs b hi) (fun cs b => hsel j oj cs b hoj) hQ hy h1
      have hfree' : ∀ k ok, ops[k]? = some ok → k ≠ i → (listed.setIfInBounds j true).getD k true = false →
          (∀ e ∈ ok.after, Region.binds md e = true → e.on ≠ i) → oi.apart ops ok = true := fun k ok hk hki hun hno => by
        refine hfree k ok hk hki ?_ hno
        by_cases hjk : j = k
        · subst hjk; exact hjun
        · rw [getD_set_ne true hjk] at hun; exact hun
      refine wpOp_mono (fun a' w' h3 => ⟨h3.2.1, ih (listed.setIfInBounds j true) a' w' hfree' (ready_mono hr (Ne.symm hji)) h3.1 (h3.2.1 hjL hS) ?_⟩) h2
      rw [Array.setIfInBounds_comm _ _ hji]
      exact h3.2.2
theorem wpAnyV_any {i : Nat} {oi : Oper} {v : Value} (hi : ops[i]? = some oi) (hsel : ∀ (j : Nat) (o : Oper) cs b, ops[j]? = some o → o.op ≠ .select cs b)
    (hQ : ∀ c a w, Q (.panic c) (a.put oi.dst v) w → Q (.panic c) a w) :
    ∀ (fuel : Nat) (listed : Array Bool) (a : Act) (w : World),
      (∀ j oj, ops[j]? = some oj → j ≠ i → listed.getD j true = false → (∀ e ∈ oj.after, Region.binds md e = true → e.on ≠ i) → oi.apart ops oj = true) →
      i ∈ Region.ready md ops listed → YieldsIf P ops (fun _ => True) oi v a →
      wpAnyV P md ops Q S L fuel (listed.setIfInBounds i true) (a.put oi.dst v) w → wpAnyV P md ops Q S L (fuel + 1) listed a w := by
  intro fuel
  induction fuel with
  | zero =>
    intro listed a w _ hr hy H
    refine ⟨fun h => (by rw [h] at hr; cases hr), fun j hj => ?_⟩
    by_cases hji : j = i
    · subst hji; exact hy.wpOp hi trivial ⟨fun _ h => h, H⟩
    · have := ready_mono hj hji
      rw [H.1] at this
      cases this
  | succ fuel ih =>
    intro listed a w hfree hr hy H
    refine ⟨fun h => (by rw [h] at hr; cases hr), fun j hj => ?_⟩
    by_cases hji : j = i
    · subst hji; exact hy.wpOp hi trivial ⟨fun _ h => h, H⟩
    · have h1 := H.2 j (ready_mono hj hji)
      obtain ⟨hjun, oj, hoj, hall⟩ := mem_ready.1 hj
      have hnot : ∀ e ∈ oj.after, Region.binds md e = true → e.on ≠ i := fun e he hb heq => by
        have h1 := hall e he hb
        have h0 := (mem_ready.1 hr).1
        rw [heq] at h1
        rcases Nat.lt_or_ge i listed.size with h' | h'
        · simp [h'] at h0 h1; rw [h0] at h1; cases h1
        · simp [Array.getElem?_eq_none h'] at h1
      have h2 := wpOp_putIf hoj (hfree j oj hoj hji hjun hnot) (fun cs b => hsel i oi cs b hi) (fun cs b => hsel j oj cs b hoj) hQ hy h1
      have hfree' : ∀ k ok, ops[k]? = some ok → k ≠ i → (listed.setIfInBounds j true).getD k true = false →
          (∀ e ∈ ok.after, Region.binds md e = true → e.on ≠ i) → oi.apart ops ok = true := fun k ok hk hki hun hno => by
        refine hfree k ok hk hki ?_ hno
        by_cases hjk : j = k
        · subst hjk; exact hjun
        · rw [getD_set_ne true hjk] at hun; exact hun
      refine wpOp_mono (fun a' w' h3 => ⟨h3.2.1, ih (listed.setIfInBounds j true) a' w' hfree' (ready_mono hr (Ne.symm hji)) h3.1 ?_⟩) h2
      rw [Array.setIfInBounds_comm _ _ hji]
      exact h3.2.2
def waitsOnV (md : Region.Mode) (ops : Array Oper) (L i : Nat) : Bool := match ops[L]? with
  | some o => o.after.any fun e => Region.binds md e && e.on == i
  | none => false
theorem waitsOnV_spec {i : Nat} (h : waitsOnV md ops L i = true) : ∃ oL, ops[L]? = some oL ∧ ∃ e ∈ oL.after, Region.binds md e = true ∧ e.on = i := by
  unfold waitsOnV at h
  split at h
  · rename_i o ho
    obtain ⟨e, he, hb⟩ := Array.any_eq_true'.1 h
    simp only [Bool.and_eq_true, beq_iff_eq] at hb
    exact ⟨o, ho, e, he, hb.1, hb.2⟩
  · cases h
theorem wpAnyV_take {i : Nat} {oi : Oper} {v : Value} {fuel : Nat} {listed : Array Bool} {a : Act} {w : World} (hi : ops[i]? = some oi)
    (hs : Region.noSelect ops = true) (hf : Region.free md ops listed i = true) (hr : (Region.ready md ops listed).contains i = true) (hL : waitsOnV md ops L i = true)
    (hQ : ∀ c a w, Q (.panic c) (a.put oi.dst v) w → Q (.panic c) a w) (hy : YieldsIf P ops S oi v a) (hS : S w)
    (h : wpAnyV P md ops Q S L fuel (listed.setIfInBounds i true) (a.put oi.dst v) w) : wpAnyV P md ops Q S L (fuel + 1) listed a w :=
  wpAnyV_first hi (Region.noSelect_spec hs) hQ (waitsOnV_spec hL) fuel listed a w (Region.free_spec hi hf) (by simpa using hr) hy hS h
theorem wpAnyV_free {i : Nat} {oi : Oper} {v : Value} {fuel : Nat} {listed : Array Bool} {a : Act} {w : World} (hi : ops[i]? = some oi)
    (hs : Region.noSelect ops = true) (hf : Region.free md ops listed i = true) (hr : (Region.ready md ops listed).contains i = true)
    (hQ : ∀ c a w, Q (.panic c) (a.put oi.dst v) w → Q (.panic c) a w) (hy : YieldsIf P ops (fun _ => True) oi v a)
    (h : wpAnyV P md ops Q S L fuel (listed.setIfInBounds i true) (a.put oi.dst v) w) : wpAnyV P md ops Q S L (fuel + 1) listed a w :=
  wpAnyV_any hi (Region.noSelect_spec hs) hQ fuel listed a w (Region.free_spec hi hf) (by simpa using hr) hy h
theorem wpAnyV_one {i : Nat} {o : Oper} {fuel : Nat} {listed : Array Bool} {a : Act} {w : World} (hr : Region.ready md ops listed = [i]) (ho : ops[i]? = some o)
    (h : ∀ K' : Act → World → Prop, Shut (∀ a w', (i ≠ L → S w → S w') → ((i ≠ L → S w → S w') → wpAnyV P md ops Q S L fuel (listed.setIfInBounds i true) a w') → K' a w') → if Region.wanted o (yielded ops a.tmps) = true then Oper.wp P o a w K' Q else K' (a.put o.dst undef) w) :
    wpAnyV P md ops Q S L (fuel + 1) listed a w := by
  refine ⟨fun h => (by rw [hr] at h; cases h), fun j hj => ?_⟩
  rw [hr] at hj
  obtain rfl := List.mem_singleton.1 hj
  exact wpOp_step ho (fun K' hK => h K' (fun a w hS hW => hK a w ⟨hS, hW hS⟩))
theorem wpAnyV_two {i j : Nat} {o1 o2 : Oper} {fuel : Nat} {listed : Array Bool} {a : Act} {w : World} (hr : Region.ready md ops listed = [i, j]) (ho1 : ops[i]? = some o1) (ho2 : ops[j]? = some o2)
    (h1 : ∀ K' : Act → World → Prop, Shut (∀ a w', (i ≠ L → S w → S w') → ((i ≠ L → S w → S w') → wpAnyV P md ops Q S L fuel (listed.setIfInBounds i true) a w') → K' a w') → if Region.wanted o1 (yielded ops a.tmps) = true then Oper.wp P o1 a w K' Q else K' (a.put o1.dst undef) w)
    (h2 : ∀ K' : Act → World → Prop, Shut (∀ a w', (j ≠ L → S w → S w') → ((j ≠ L → S w → S w') → wpAnyV P md ops Q S L fuel (listed.setIfInBounds j true) a w') → K' a w') → if Region.wanted o2 (yielded ops a.tmps) = true then Oper.wp P o2 a w K' Q else K' (a.put o2.dst undef) w) :
    wpAnyV P md ops Q S L (fuel + 1) listed a w := by
  refine ⟨fun h => (by rw [hr] at h; cases h), fun k hk => ?_⟩
  rw [hr] at hk
  simp only [List.mem_cons, List.not_mem_nil, or_false] at hk
  rcases hk with rfl | rfl
  · exact wpOp_step ho1 (fun K' hK => h1 K' (fun a w hS hW => hK a w ⟨hS, hW hS⟩))
  · exact wpOp_step ho2 (fun K' hK => h2 K' (fun a w hS hW => hK a w ⟨hS, hW hS⟩))
theorem wpAnyV_done {listed : Array Bool} {a : Act} {w : World} (hr : Region.ready md ops listed = []) (h : Q .normal a w) : ∀ fuel, wpAnyV P md ops Q S L fuel listed a w
  | 0 => ⟨hr, h⟩
  | _ + 1 => ⟨fun _ => h, by rw [hr]; simp⟩
theorem wp_region_V (S : World → Prop) (L : Nat) {id : Nat} {a : Act} {w : World} (hm : P.follows .mixedOrders = true) (hS : S w.drew)
    (h : S w.drew → wpAnyV P .any ops Q S L ops.size (Array.replicate ops.size false) a w.drew) : (Code.region id ops true).wp P Q a w :=
  wp_region_any hm (wpAny_of_V _ _ _ _ (h hS))
theorem takeV (i : Nat) {oi : Oper} {v : Value} {fuel : Nat} {listed : Array Bool} {a : Act} {w : World} (hi : ops[i]? = some oi) (hc : (okH md ops listed i && waitsOnV md ops L i) = true)
    (hQ : ∀ c a w, Q (.panic c) (a.put oi.dst v) w → Q (.panic c) a w) (h1 : Region.wanted oi (yielded ops a.tmps) = true) (h2 : ∀ w, S w → (execOp a.eval oi).run P w = .ok (.value v) w) (hS : S w)
    (h : wpAnyV P md ops Q S L fuel (listed.setIfInBounds i true) (a.put oi.dst v) w) : wpAnyV P md ops Q S L (fuel + 1) listed a w := by
  rw [Bool.and_eq_true] at hc
  exact wpAnyV_take hi (okH_iff hc.1).1 (okH_iff hc.1).2.1 (okH_iff hc.1).2.2 hc.2 hQ (Or.inl ⟨h1, h2⟩) hS h
theorem freeV (i : Nat) {oi : Oper} {v : Value} {fuel : Nat} {listed : Array Bool} {a : Act} {w : World} (hi : ops[i]? = some oi) (hc : okH md ops listed i = true)
    (hQ : ∀ c a w, Q (.panic c) (a.put oi.dst v) w → Q (.panic c) a w) (h1 : Region.wanted oi (yielded ops a.tmps) = true) (h2 : ∀ w, (execOp a.eval oi).run P w = .ok (.value v) w)
    (h : wpAnyV P md ops Q S L fuel (listed.setIfInBounds i true) (a.put oi.dst v) w) : wpAnyV P md ops Q S L (fuel + 1) listed a w :=
  wpAnyV_free hi (okH_iff hc).1 (okH_iff hc).2.1 (okH_iff hc).2.2 hQ (Or.inl ⟨h1, fun w _ => h2 w⟩) h
theorem zV (i : Nat) {oi : Oper} {v : Value} {fuel : Nat} {listed : Array Bool} {a : Act} {w : World}
    (h : wpAnyV P md ops Q S L fuel (listed.setIfInBounds i true) (a.put oi.dst v) w) (hi : ops[i]? = some oi := by exact opAt rfl) (hc : (okH md ops listed i && waitsOnV md ops L i) = true := by kernel_rfl)
    (hQ : ∀ c a w, Q (.panic c) (a.put oi.dst v) w → Q (.panic c) a w := by exact fun _ _ _ h => h) (h1 : Region.wanted oi (yielded ops a.tmps) = true := by rfl)
    (h2 : ∀ w, S w → (execOp a.eval oi).run P w = .ok (.value v) w := by intro w hSw; (try dsimp only at hSw); go_simp; try with_reducible rfl) (hS : S w := by assumption) : wpAnyV P md ops Q S L (fuel + 1) listed a w :=
  takeV i hi hc hQ h1 h2 hS h
theorem yV (i : Nat) {oi : Oper} {v : Value} {fuel : Nat} {listed : Array Bool} {a : Act} {w : World}
    (h : wpAnyV P md ops Q S L fuel (listed.setIfInBounds i true) (a.put oi.dst v) w) (hi : ops[i]? = some oi := by exact opAt rfl) (hc : okH md ops listed i = true := by kernel_rfl)
    (hQ : ∀ c a w, Q (.panic c) (a.put oi.dst v) w → Q (.panic c) a w := by exact fun _ _ _ h => h) (h1 : Region.wanted oi (yielded ops a.tmps) = true := by rfl)
    (h2 : ∀ w, (execOp a.eval oi).run P w = .ok (.value v) w := by intro w; go_simp; try with_reducible rfl) : wpAnyV P md ops Q S L (fuel + 1) listed a w :=
  freeV i hi hc hQ h1 h2 h
end
end Go.Proofs.YtofjodppljnlaaaGreatDoor
