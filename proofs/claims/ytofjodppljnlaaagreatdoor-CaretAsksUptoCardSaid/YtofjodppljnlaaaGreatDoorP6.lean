/- My own texts, packed: NetX, One6, Check6, May6P, MayW, May6, Holds, Holds6, CaretP, CaretB, CaretTx, MovesP, Ref11, CaretI, CaretF, CaretN, Near11, CaretM, Move11, Par6. -/
import Derived.Test.YtofjodppljnlaaaGreatDoorP5
namespace Go.Proofs.YtofjodppljnlaaaGreatDoor
open Go.RowKit
set_option linter.unusedVariables false
set_option linter.unusedSimpArgs false
structure RunR (N : NetD) (word : List Int) (k : Nat) (out : List Bool) : Prop where
  le : k ≤ word.length
  plc : Plc N (word.take k) out
  live : ∃ j, Rch N.E 0 (word.take k) j
  stop : k < word.length → ¬ ∃ j, Rch N.E 0 (word.take (k + 1)) j
set_option maxRecDepth 100000 in
set_option maxHeartbeats 4000000 in
theorem run6_calls {w : World} {nb : Nat} {N : NetD} {G : Nat → Prop} {Aw : Option Addr} {cw : Nat} {word : List Int} (hN : NetV w nb N) (ok : N.Ok) (h0 : 0 < N.nx.length) (hb : N.nx.length ≤ 1048576) (hrow : ∀ x ∈ N.tos, x.length ≤ 1048576) (hby : ∀ x ∈ N.bys, x.length ≤ 1048576) (hw : intR.row w G Aw word) (hwl : word.length ≤ 1048576 * 4) :
    Calls Tryz.prog 135 #[.pointer (some ⟨nb, 0, none⟩), .slice Aw word.length cw] w fun r w' => (∃ g cap out k, r = .returned (.tuple #[.slice (some ⟨g, 0, none⟩) N.nx.length cap, .int .i64 (k : Nat)]) ∧ BoolO w' (fun k => w.heap.size ≤ k) (.slice (some ⟨g, 0, none⟩) N.nx.length cap) out ∧ RunR N word k out) ∧ Pure w w' := by
  have HN := As.mk hN
  have HK := As.mk ok
  have HR := As.mk hrow
  have HBL := As.mk hby
  have HW := As.mk hw
  clear hN ok hrow hby hw
  go_enter Tryz.func135, Tryz.ntmps135
  go_wp2_with (go_at_call 172; refine (nfirst_calls HN.out HK.out h0 hb HR.out).mono ?_; rintro r w1 ⟨⟨v1, out, rfl, ho, hp⟩, hu⟩; have HO1 := As.mk ho; have HP1 := As.mk hp; have HU1 := As.mk hu; obtain ⟨gb, cap, rfl, _, _⟩ := bool_form2 ho hp.len h0; clear ho hp hu)
  go_loopg [6, 7] word.length (fun g iv i wr => ∃ (k gb cap : Nat) (out : List Bool), k + g = word.length ∧ iv = .slice (some ⟨gb, 0, none⟩) N.nx.length cap ∧ i = .int .i64 k ∧ As (Plc N (word.take k) out ∧ ∃ j, Rch N.E 0 (word.take k) j) ∧ As (BoolO wr (fun k => w.heap.size ≤ k) (.slice (some ⟨gb, 0, none⟩) N.nx.length cap) out) ∧ As (Pure w wr))
  case atStart => exact ⟨0, gb, cap, out, by omega, rfl, rfl, ⟨HP1.out, 0, .nil 0⟩, HO1, HU1⟩
  case round =>
    obtain ⟨k, gb, cap, out, hk, rfl, rfl, HPL, HO, HP⟩ := hrel
    by_cases hlt : k < word.length
    · obtain ⟨x, hx⟩ : ∃ x, word[k]? = some x := ⟨_, List.getElem?_eq_getElem hlt⟩
      obtain ⟨b, o, rfl, _, _, d0⟩ := int_at (Rp.row_pure HW.out HP.out) hx
      obtain ⟨g1, rfl⟩ : ∃ m, gk = m + 1 := ⟨gk - 1, by omega⟩
      have HE := As.mk (show word.take k ++ [x] = word.take (k + 1) by rw [List.take_add_one, hx]; rfl)
      have HKK := As.mk hk
      have HRB := As.mk (bool_row HO.out)
      clear hk hx
      go_wp2_with (go_at_call 173; refine (step_calls2 x (HN.out.pure HP.out) HK.out h0 hb HR.out HBL.out HRB.out HPL.out.1).mono ?_; rintro r w2 ⟨⟨v2, out2, s2, rfl, ho, hs⟩, hu⟩; rw [HE.out] at hs; have HO2 := As.mk ho; have HS2 := As.mk hs; have HU2 := As.mk hu; obtain ⟨gb2, cap2, rfl, _, _⟩ := bool_form2 ho hs.plc.len h0; clear ho hs hu; apply As.out)
      refine ⟨?_⟩
      cases s2 with
      | false =>
        go_wp2
        go_simp
        refine bodyPost_ret (results_tmp2 rfl _ _ _) rfl ?_
        exact ⟨⟨gb, cap, out, k, rfl, (by exact Rp.own_upd HO.out HU2.out (fun _ _ _ h => h)), ⟨by omega, HPL.out.1, HPL.out.2, fun _ h => by have := HS2.out.any.2 h; cases this⟩⟩, HP.out.trans HU2.out (fun _ _ h => h)⟩
      | true =>
        go_wp2
        go_roundg g1
        case measure => omega
        case rel => exact ⟨k + 1, gb2, cap2, out2, by have := HKK.out; omega, rfl, by go_num, ⟨HS2.out.plc, HS2.out.any.1 rfl⟩, ⟨Rp.own_fp HO2.out (fun q hq => by have := HP.out.size; omega)⟩, ⟨HP.out.trans HU2.out (fun _ _ h => h)⟩⟩
    · have hkl : k = word.length := by omega
      subst hkl
      go_wp2
      go_simp
      refine bodyPost_ret (results_tmp2 rfl _ _ _) rfl ?_
      exact ⟨⟨gb, cap, out, word.length, rfl, HO.out, ⟨Nat.le_refl _, HPL.out.1, HPL.out.2, fun h => by omega⟩⟩, HP.out⟩
mutual
theorem layE_bys (ty : ByteArray → List Int) (m : Nat) (hty : ∀ nm, (ty nm).length ≤ m) : ∀ (e : Ex) (a b : Nat) (N : NetD), (∀ x ∈ N.bys, x.length ≤ m) → ∀ x ∈ (layE ty e a b N).bys, x.length ≤ m
  | .mk k nm l, a, b, N, h => by
    have hp : ∀ N : NetD, (∀ x ∈ N.bys, x.length ≤ m) → ∀ x ∈ N.place.bys, x.length ≤ m := fun N h x hx => by
      rcases List.mem_append.1 (show x ∈ N.bys ++ [[]] from hx) with hx | hx
      · exact h x hx
      · rw [List.mem_singleton.1 hx]; exact Nat.zero_le _
    have hf : ∀ (N : NetD) (a b : Nat), (∀ x ∈ N.bys, x.length ≤ m) → ∀ x ∈ (N.free a b).bys, x.length ≤ m := fun N a b h => h
    unfold layE
    by_cases h0 : k = 0
    · rw [if_pos h0]; exact hf _ _ _ h
    · rw [if_neg h0]
      by_cases h1 : k = 1
      · rw [if_pos h1]
        intro x hx
        rcases List.mem_or_eq_of_mem_set (show x ∈ ((N.place.free a N.nx.length).bys).set N.nx.length (ty nm) from hx) with hx | hx
        · exact hp N h x hx
        · rw [hx]; exact hty nm
      · rw [if_neg h1]
        by_cases h2 : k = 2
        · rw [if_pos h2]; exact laySeq_bys ty m hty l a b N h
        · rw [if_neg h2]
          by_cases h3 : k = 3
          · rw [if_pos h3]; exact layAlt_bys ty m hty l a b N h
          · rw [if_neg h3]
            have i4 := layOne_bys ty m hty l N.nx.length (N.nx.length + 1) (N.place.place.free a N.nx.length) (hf _ _ _ (hp _ (hp _ h)))
            dsimp only
            split <;> split <;> exact i4
theorem laySeq_bys (ty : ByteArray → List Int) (m : Nat) (hty : ∀ nm, (ty nm).length ≤ m) : ∀ (l : List Ex) (a b : Nat) (N : NetD), (∀ x ∈ N.bys, x.length ≤ m) → ∀ x ∈ (laySeq ty l a b N).bys, x.length ≤ m
  | [], a, b, N, h => by unfold laySeq; exact h
  | x :: r, a, b, N, h => by
    unfold laySeq
    refine laySeq_bys ty m hty r _ _ _ (layE_bys ty m hty x _ _ _ fun y hy => ?_)
    rcases List.mem_append.1 (show y ∈ N.bys ++ [[]] from hy) with hy | hy
    · exact h y hy
    · rw [List.mem_singleton.1 hy]; exact Nat.zero_le _
theorem layAlt_bys (ty : ByteArray → List Int) (m : Nat) (hty : ∀ nm, (ty nm).length ≤ m) : ∀ (l : List Ex) (a b : Nat) (N : NetD), (∀ x ∈ N.bys, x.length ≤ m) → ∀ x ∈ (layAlt ty l a b N).bys, x.length ≤ m
  | [], a, b, N, h => by unfold layAlt; exact h
  | x :: r, a, b, N, h => by unfold layAlt; exact layAlt_bys ty m hty r _ _ _ (layE_bys ty m hty x _ _ _ h)
theorem layOne_bys (ty : ByteArray → List Int) (m : Nat) (hty : ∀ nm, (ty nm).length ≤ m) : ∀ (l : List Ex) (a b : Nat) (N : NetD), (∀ x ∈ N.bys, x.length ≤ m) → ∀ x ∈ (layOne ty l a b N).bys, x.length ≤ m
  | [], a, b, N, h => by unfold layOne; exact h
  | x :: r, a, b, N, h => by unfold layOne; exact layE_bys ty m hty x _ _ _ h
end
theorem typesOf_len {g : List Grp} {m : Nat} (h : ∀ x ∈ g, x.types.length ≤ m) (nm : ByteArray) : (typesOf g nm).length ≤ m := by
  induction g with
  | nil => simp [typesOf]
  | cons x r ih =>
    unfold typesOf
    split
    · exact h x (List.mem_cons_self ..)
    · exact ih (fun y hy => h y (List.mem_cons_of_mem _ hy))
structure NetB (N : NetD) : Prop where
  ok : N.Ok
  pos : 0 < N.nx.length
  two : 1 < N.nx.length
  le : N.nx.length ≤ 1048576
  tos : ∀ x ∈ N.tos, x.length ≤ 1048576
  bys : ∀ x ∈ N.bys, x.length ≤ 1048576
theorem netB {g : List Grp} {e : Ex} (hc : e.cnt ≤ 100000) (hg : ∀ x ∈ g, x.types.length ≤ 1048576) : NetB (netOf (typesOf g) e) := by
  have hL := net_laid (typesOf g) e
  have hle : 2 ≤ (netOf (typesOf g) e).nx.length := hL.le
  have hw : (netOf (typesOf g) e).wt + 1 ≤ 2 + 8 * e.cnt := layE_wt (typesOf g) e 0 1 net0
  have hn := (netOf (typesOf g) e).nx_wt
  refine ⟨hL.ok, by omega, by omega, by omega, fun x hx => ?_, layE_bys (typesOf g) 1048576 (typesOf_len hg) e 0 1 net0 (fun x hx => by simp [net0] at hx; rw [hx]; exact Nat.zero_le _)⟩
  obtain ⟨i, hi⟩ := List.getElem?_of_mem hx
  have := NetD.wt_row hi
  omega
theorem run_acc {g : List Grp} {e : Ex} {word : List Int} {k : Nat} {out : List Bool} (hc : regCheck e g = 0) (h : RunR (netOf (typesOf g) e) word k out) : regAccepts e g word = (decide (k = word.length) && out.getD 1 false) ∧ regBegins e g word = k := by
  have hl := check_live hc
  have hacc : regAccepts e g word = true ↔ Rch (netOf (typesOf g) e).E 0 word 1 := by
    rw [accepts_iff, net_word]
    exact ⟨fun h => (acc_lang hc word).1 h.2, fun h => ⟨hc, (acc_lang hc word).2 h⟩⟩
  constructor
  · rw [Bool.eq_iff_iff, hacc, Bool.and_eq_true, decide_eq_true_eq]
    constructor
    · intro hr
      by_cases hk : k = word.length
      · refine ⟨hk, (h.plc.iff 1).2 ?_⟩
        rw [hk, List.take_length]
        exact hr
      · exfalso
        have hlt : k < word.length := by have := h.le; omega
        obtain ⟨r, h1, _⟩ := hr.split (word.take (k + 1)) (word.drop (k + 1)) (List.take_append_drop _ _).symm
        exact h.stop hlt ⟨r, h1⟩
    · rintro ⟨hk, ho⟩
      have := (h.plc.iff 1).1 ho
      rw [hk, List.take_length] at this
      exact this
  · have e1 : regBegins e g word = (regRun e g word).2 := by unfold regBegins; rw [if_pos hc]
    rw [e1]
    refine run_eq hc word k h.le ((live_lang hc _).2 ((net_live _ e hl _).1 h.live)) (fun hlt hL => h.stop hlt ((net_live _ e hl _).2 ((live_lang hc _).1 hL)))
theorem Rp.row_here {α : Type} {d : Rp α} {w : World} {F : Nat → Prop} {A : Option Addr} {xs : List α} (h : d.row w F A xs) : d.row w (fun k => k < w.heap.size) A xs := Rp.row_move (fun _ _ hl => ⟨hl, hl, rfl⟩) h
theorem check_cnt {g : List Grp} {e : Ex} (h : regCheck e g = 0) : e.cnt ≤ 200 := by
  unfold regCheck at h
  by_cases h0 : exprCheck e = 0
  · unfold exprCheck at h0
    split at h0
    · cases h0
    · omega
  · exfalso; revert h; simp [h0]
/-- The net of a right tree, made. -/
theorem made6 {w : World} {F G : Nat → Prop} {A Ag : Option Addr} {c cg : Nat} {e : Ex} {g : List Grp} (hr : exR.row w F A e.l) (hgr : grpR.row w G Ag g) (hc : regCheck e g = 0) (hgl : g.length ≤ 1048576) :
    Calls Tryz.prog 134 #[e.val A c, .slice Ag g.length cg] w fun r w' => (∃ nb, r = .returned (.pointer (some ⟨nb, 0, none⟩)) ∧ NetV w' nb (netOf (typesOf g) e)) ∧ Pure w w' :=
  made_calls (Rp.row_here hr) (Rp.row_here hgr) (fun _ h => h) (fun _ h => h) (check_live hc) (by have := check_cnt hc; omega) hgl
set_option maxRecDepth 100000 in
set_option maxHeartbeats 4000000 in
theorem accepts6_calls {F G H : Nat → Prop} {A B Aw : Option Addr} {c d cw : Nat} {e : Ex} {g : List Grp} {word : List Int} {w : World} (hr : exR.row w F A e.l) (hg : grpR.row w G B g) (hw : intR.row w H Aw word) (hb : e.wt ≤ 1048576 * 4) (hgl : g.length ≤ 1048576) (hgt : ∀ x ∈ g, x.types.length ≤ 1048576) (hwl : word.length ≤ 1048576 * 4) :
    Calls Tryz.prog 70 #[e.val A c, .slice B g.length d, .slice Aw word.length cw] w fun r w' => r = .returned (.bool (regAccepts e g word)) ∧ Pure w w' := by
  have HCK := As.mk (fun W (hu : Pure w W) => regCheck6_calls (c := c) (d := d) (Rp.row_pure hr hu) (Rp.row_pure hg hu) hb hgl hgt)
  have HMD := As.mk (fun W (hu : Pure w W) (hc : regCheck e g = 0) => made6 (c := c) (cg := d) (Rp.row_pure hr hu) (Rp.row_pure hg hu) hc hgl)
  have HNB := As.mk (fun (hc : regCheck e g = 0) => netB (g := g) (e := e) (by have := check_cnt hc; omega) hgt)
  have HRN := As.mk (fun (hc : regCheck e g = 0) (k : Nat) (out : List Bool) (h : RunR (netOf (typesOf g) e) word k out) => run_acc hc h)
  have HF := As.mk (show regCheck e g ≠ 0 → regAccepts e g word = false from fun h => by unfold regAccepts; simp [h])
  have HW := As.mk hw
  clear hr hg hw hgt
  obtain ⟨k0, nm, l⟩ := e
  show Calls Tryz.prog 70 #[.agg #[.int .i64 k0, .string nm, .slice A l.length c], .slice B g.length d, .slice Aw word.length cw] w _
  generalize hN : netOf (typesOf g) (.mk k0 nm l) = N at *
  generalize regAccepts (.mk k0 nm l) g word = acc at *
  generalize regBegins (.mk k0 nm l) g word = beg at *
  unfold Ex.val at *
  generalize hrc : regCheck (.mk k0 nm l) g = rc at *
  clear hrc hN
  have hbx := BoxE.new w k0 nm l.length A c 92
  by_cases h0 : rc = 0
  · subst h0
    have HNB2 := As.mk (HNB.out rfl)
    have HMD2 := As.mk (fun W (hu : Pure w W) => HMD.out W hu rfl)
    have HRN2 := As.mk (HRN.out rfl)
    clear HNB HMD HRN HF
    go_enter Tryz.func70, Tryz.ntmps70
    go_wp2_with (go_at_call 133; refine (HCK.out _ (Upd.alloc1 _ _ _)).mono ?_; rintro e w1 ⟨rfl, hu⟩; have HU1 := As.mk hu; clear hu; apply As.out)
    refine ⟨?_⟩
    obtain ⟨q0, q1, q2, q3⟩ := hbx.pure HU1.out
    have HP1 : As (Pure w w1) := ⟨(Upd.alloc1 _ _ _).trans HU1.out (fun _ _ h => h)⟩
    go_wp2_with (first | (go_at_call 135; refine (run6_calls HNV.out HNB2.out.ok HNB2.out.pos HNB2.out.le HNB2.out.tos HNB2.out.bys (Rp.row_pure HW.out HP2.out) hwl).mono ?_; rintro r w3 ⟨⟨gb, cap, out, k, rfl, ho, hrr⟩, hu⟩; have HO := As.mk ho; have HRR := As.mk hrr; have HU3 := As.mk hu; have hk := hrr.le; clear ho hrr hu; apply As.out) | (go_at_call 134; refine (HMD2.out _ HP1.out).mono ?_; rintro e w2 ⟨⟨nb, rfl, hnv⟩, hu⟩; have HNV := As.mk hnv; have HP2 := As.mk (HP1.out.trans hu (fun _ _ h => h)); clear hu hnv))
    refine ⟨?_⟩
    obtain ⟨b1, hb1⟩ : ∃ b, out[1]? = some b := ⟨_, List.getElem?_eq_getElem (by rw [HRR.out.plc.len]; exact HNB2.out.two)⟩
    obtain ⟨u0, u1⟩ := bool_cell2 HO.out HRR.out.plc.len hb1
    have h11 : (1 : Int) < (N.nx.length : Int) := by have := HNB2.out.two; omega
    have HA := As.mk (HRN2.out k out HRR.out).1
    have HB1 := As.mk (getD_of (d := false) hb1)
    clear hb1
    by_cases hkl : k = word.length
    · subst hkl
      go_wp2
      go_ret
      exact ⟨by rw [HA.out, HB1.out]; simp, HP2.out.trans HU3.out (fun _ _ h => h)⟩
    · have hki : ¬ ((k : Int) = (word.length : Int)) := by omega
      have HA2 : As (acc = false) := ⟨by rw [HA.out]; simp [hkl]⟩
      clear hkl
      go_wp2
      go_ret
      exact ⟨by rw [HA2.out]; rfl, HP2.out.trans HU3.out (fun _ _ h => h)⟩
  · have f0 : (rc != 0) = true := by simpa using h0
    have HF2 := As.mk (HF.out h0)
    clear h0
    go_enter Tryz.func70, Tryz.ntmps70
    go_wp2_with (go_at_call 133; refine (HCK.out _ (Upd.alloc1 _ _ _)).mono ?_; rintro e w1 ⟨rfl, hu⟩; have HU1 := As.mk hu; clear hu)
    go_ret
    exact ⟨by rw [HF2.out]; rfl, (Upd.alloc1 _ _ _).trans HU1.out (fun _ _ h => h)⟩
set_option maxRecDepth 100000 in
set_option maxHeartbeats 4000000 in
theorem begins6_calls {F G H : Nat → Prop} {A B Aw : Option Addr} {c d cw : Nat} {e : Ex} {g : List Grp} {word : List Int} {w : World} (hr : exR.row w F A e.l) (hg : grpR.row w G B g) (hw : intR.row w H Aw word) (hb : e.wt ≤ 1048576 * 4) (hgl : g.length ≤ 1048576) (hgt : ∀ x ∈ g, x.types.length ≤ 1048576) (hwl : word.length ≤ 1048576 * 4) :
    Calls Tryz.prog 132 #[e.val A c, .slice B g.length d, .slice Aw word.length cw] w fun r w' => r = .returned (.int .i64 (regBegins e g word : Nat)) ∧ Pure w w' := by
  have HCK := As.mk (fun W (hu : Pure w W) => regCheck6_calls (c := c) (d := d) (Rp.row_pure hr hu) (Rp.row_pure hg hu) hb hgl hgt)
  have HMD := As.mk (fun W (hu : Pure w W) (hc : regCheck e g = 0) => made6 (c := c) (cg := d) (Rp.row_pure hr hu) (Rp.row_pure hg hu) hc hgl)
  have HNB := As.mk (fun (hc : regCheck e g = 0) => netB (g := g) (e := e) (by have := check_cnt hc; omega) hgt)
  have HRN := As.mk (fun (hc : regCheck e g = 0) (k : Nat) (out : List Bool) (h : RunR (netOf (typesOf g) e) word k out) => run_acc hc h)
  have HF := As.mk (show regCheck e g ≠ 0 → regBegins e g word = 0 from fun h => by unfold regBegins; rw [if_neg h])
  have HW := As.mk hw
  clear hr hg hw hgt
  obtain ⟨k0, nm, l⟩ := e
  show Calls Tryz.prog 132 #[.agg #[.int .i64 k0, .string nm, .slice A l.length c], .slice B g.length d, .slice Aw word.length cw] w _
  generalize hN : netOf (typesOf g) (.mk k0 nm l) = N at *
  generalize regAccepts (.mk k0 nm l) g word = acc at *
  generalize regBegins (.mk k0 nm l) g word = beg at *
  unfold Ex.val at *
  generalize hrc : regCheck (.mk k0 nm l) g = rc at *
  clear hrc hN
  have hbx := BoxE.new w k0 nm l.length A c 92
  by_cases h0 : rc = 0
  · subst h0
    have HNB2 := As.mk (HNB.out rfl)
    have HMD2 := As.mk (fun W (hu : Pure w W) => HMD.out W hu rfl)
    have HRN2 := As.mk (HRN.out rfl)
    clear HNB HMD HRN HF
    go_enter Tryz.func132, Tryz.ntmps132
    go_wp2_with (go_at_call 133; refine (HCK.out _ (Upd.alloc1 _ _ _)).mono ?_; rintro e w1 ⟨rfl, hu⟩; have HU1 := As.mk hu; clear hu; apply As.out)
    refine ⟨?_⟩
    obtain ⟨q0, q1, q2, q3⟩ := hbx.pure HU1.out
    have HP1 : As (Pure w w1) := ⟨(Upd.alloc1 _ _ _).trans HU1.out (fun _ _ h => h)⟩
    go_wp2_with (first | (go_at_call 135; refine (run6_calls HNV.out HNB2.out.ok HNB2.out.pos HNB2.out.le HNB2.out.tos HNB2.out.bys (Rp.row_pure HW.out HP2.out) hwl).mono ?_; rintro r w3 ⟨⟨gb, cap, out, k, rfl, ho, hrr⟩, hu⟩; have HRR := As.mk hrr; have HU3 := As.mk hu; have hk := hrr.le; clear ho hrr hu) | (go_at_call 134; refine (HMD2.out _ HP1.out).mono ?_; rintro e w2 ⟨⟨nb, rfl, hnv⟩, hu⟩; have HNV := As.mk hnv; have HP2 := As.mk (HP1.out.trans hu (fun _ _ h => h)); clear hu hnv))
    go_ret
    exact ⟨by rw [(HRN2.out _ _ HRR.out).2]; rfl, HP2.out.trans HU3.out (fun _ _ h => h)⟩
  · have f0 : (rc != 0) = true := by simpa using h0
    have HF2 := As.mk (HF.out h0)
    clear h0
    go_enter Tryz.func132, Tryz.ntmps132
    go_wp2_with (go_at_call 133; refine (HCK.out _ (Upd.alloc1 _ _ _)).mono ?_; rintro e w1 ⟨rfl, hu⟩; have HU1 := As.mk hu; clear hu)
    go_ret
    exact ⟨by rw [HF2.out]; rfl, (Upd.alloc1 _ _ _).trans HU1.out (fun _ _ h => h)⟩
end Go.Proofs.YtofjodppljnlaaaGreatDoor
namespace Go.Proofs.YtofjodppljnlaaaGreatDoor
open Go.RowKit
set_option linter.unusedVariables false
set_option linter.unusedSimpArgs false
/-- What a place around may be. -/
def InP (l : List Tok) (n : Int) : Prop := n < 0 ∨ ∃ (j k : Nat) (y : Tok), n = (j : Int) ∧ l[j]? = some y ∧ k < 7 ∧ y.t = ((k + 1 : Nat) : Int)
theorem rule6_calls {w : World} {cb : Nat} {F : Nat → Prop} {A : Option Addr} {c : Nat} {l : List Tok} (h : H6 w cb) (hr : tokR.row w F A l) {n : Int} (hn : InP l n) : Calls Tryz.prog 78 #[.pointer (some ⟨cb, 0, none⟩), .slice A l.length c, .int .i64 n] w fun r w' => (∃ A1 c1, r = .returned ((rule6 l n).2.val A1 c1) ∧ exR.row w' AnyB A1 (rule6 l n).2.l) ∧ Pure w w' := by
  unfold rule6
  by_cases h0 : n < 0
  · rw [if_pos h0, show (ruleOf houseRules 0).2 = houseE0 from rfl]
    exact rule6_whole h h0
  · rw [if_neg h0]
    rcases hn with h1 | ⟨j, k, y, rfl, hy, hk, hyt⟩
    · exact absurd h1 h0
    · obtain ⟨x, e, _, he, hR⟩ := h6_at k hk
      have : (ruleOf houseRules (tyAt l (j : Int))).2 = e := by
        unfold tyAt
        rw [Int.toNat_natCast, hy]
        show (ruleOf houseRules y.t).2 = e
        rw [hyt, rule_get hR]
      rw [this]
      exact rule6_in h hr hy hk hyt he
theorem token6_calls {w : World} {cb : Nat} {F : Nat → Prop} {A : Option Addr} {c : Nat} {l : List Tok} (h : H6 w cb) (hr : tokR.row w F A l) {i : Nat} {x : Tok} (hx : l[i]? = some x) {n : Int} (hn : InP l n) : Calls Tryz.prog 131 #[.pointer (some ⟨cb, 0, none⟩), .slice A l.length c, .int .i64 i, .int .i64 n] w fun r w' => r = .returned (.bool (token6 (specAt l n) x)) ∧ Pure w w' := by
  by_cases hk : x.k = 0
  · unfold specAt
    by_cases h0 : n < 0
    · rw [if_pos h0]
      exact token6_rune_out hr hx hk h0
    · rw [if_neg h0]
      rcases hn with h1 | ⟨j, k, y, rfl, hy, _, _⟩
      · exact absurd h1 h0
      · have : tyAt l (j : Int) = y.t := by unfold tyAt; rw [Int.toNat_natCast, hy]; rfl
        rw [this]
        exact token6_rune_in h hr hx hk hy
  · exact token6_else h hr hx hk
theorem rule_wt (t : Int) : (ruleOf houseRules t).2.wt ≤ 1048576 * 4 := by
  obtain ⟨i, hi, h⟩ := house_rule t
  rw [h]
  have h : ((List.range 9).all fun i => decide ((ruleOf houseRules (i : Int)).2.wt ≤ 1048576 * 4)) = true := by kernel_rfl
  simpa using List.all_eq_true.1 h i (List.mem_range.2 hi)
theorem rule6_wt (l : List Tok) (n : Int) : (rule6 l n).2.wt ≤ 1048576 * 4 := by
  unfold rule6
  split <;> exact rule_wt _
theorem at_in6 {l : List Tok} {k : Nat} (hk : k ≤ l.length) {top : Lev} {below : List Lev} (h : hRun hTop [] (l.take k) = some (top, below)) : InP l (aroundL l k) ∧ ∃ a : Nat, aroundL l k = (a : Int) - 1 ∧ a ≤ k := by
  have HL := run_lv hk h
  unfold aroundL
  rcases HL.inv with ⟨h1, _, _⟩ | ⟨j, yt, y, h1, hy, hy1, hyt, hyt1, hR, hj, h3⟩
  · rw [h1]
    exact ⟨.inl (by omega), 0, by omega, by omega⟩
  · rw [h1]
    have h8 : yt < 8 := by have := (List.getElem?_eq_some_iff.1 hR).1; rw [house_len] at this; exact this
    exact ⟨.inr ⟨j, yt - 1, y, rfl, hy, by omega, by rw [hyt]; congr 1; omega⟩, j + 1, by omega, by omega⟩
set_option maxRecDepth 100000 in
set_option maxHeartbeats 4000000 in
theorem one6_shut {w : World} {cb : Nat} {F : Nat → Prop} {A : Option Addr} {c : Nat} {l : List Tok} (h : H6 w cb) (hr : tokR.row w F A l) (hb : l.length ≤ 2048) (hlc : l.length ≤ c) {k : Nat} {x : Tok} (hx : l[k]? = some x) (h2 : x.k = 2) {top : Lev} {below : List Lev} (hrun : hRun hTop [] (l.take k) = some (top, below)) :
    Calls Tryz.prog 69 #[.pointer (some ⟨cb, 0, none⟩), .slice A l.length c, .int .i64 k] w fun r w' => r = .returned (.bool (one6 l k x)) ∧ Pure w w' := by
  have hk := (List.getElem?_eq_some_iff.1 hx).1
  obtain ⟨hin, a, ha, hak⟩ := at_in6 (by omega) hrun
  unfold one6
  rw [if_pos h2]
  have HAR := As.mk (around4_calls (c := c) (at' := (k : Int)) hr (by omega) hlc)
  have HWD := As.mk (fun W (hu : Pure w W) => word6_calls (c := c) (a := a) (b := k) (i := aroundL l k) (Rp.row_pure hr hu) (by omega) (by omega) hak ha)
  have HRU := As.mk (fun W (hu : Pure w W) => rule6_calls (c := c) (h.pure hu) (Rp.row_pure hr hu) hin)
  obtain ⟨bt, ot, rfl, _, hbt, q0, q1, q2, q3⟩ := tok_at hr hx
  obtain ⟨AW, cW, AL, cL, AE, cE, AG, cG, hcb, c0, c1, c2, c3, c4, c5, _, _, _, hg⟩ := h.cells
  have HG := As.mk hg
  have HOK := As.mk (And.intro house_ok.gl house_ok.gt)
  have HEW := As.mk (rule6_wt l (aroundL l k))
  generalize houseGroups = gs at *
  generalize (rule6 l (aroundL l k)).2 = e at *
  generalize wordL l (aroundL l k) k = wd at *
  generalize aroundL l k = n at *
  rw [h2] at q0
  have hil : (k : Int) < (l.length : Int) := by omega
  clear hr hx h2 hrun h hg ha hin c0 c1 c2 c3 c4 q1 q2 q3
  go_enter Tryz.func69, Tryz.ntmps69
  go_wp2_with (first | (go_at_call 71; refine (HWD.out _ HU1.out).mono ?_; rintro r w2 ⟨v, rfl, ho, hwl, hu⟩; have HO := As.mk ho; have HWL := As.mk hwl; have HU2 := As.mk (HU1.out.trans hu (fun _ _ h => h)); clear ho hu hwl; apply As.out) | (go_at_call 74; refine HAR.out.mono ?_; rintro r w1 ⟨rfl, hu⟩; have HU1 := As.mk hu; clear hu))
  refine ⟨?_⟩
  obtain ⟨Av, cv, rfl, _, hrow⟩ := Rp.own_slice HO.out
  have HW := As.mk (Rp.row_here hrow)
  clear hrow
  have q0' := (HU2.out.cell hbt (fun h => h)).trans q0
  have hbt' := Nat.lt_of_lt_of_le hbt HU2.out.size
  have HS : As (∀ v, Pure w v → v.cell? ⟨cb, 5, none⟩ = some (.slice AG gs.length cG)) := ⟨fun v hu => (hu.cell hcb (fun h => h)).trans c5⟩
  have HUD := As.mk HU2.out.drew
  have HWD2 := As.mk (Rp.row_pure HW.out (Upd.refl (fun _ => False) _).drew)
  clear c5 q0
  go_wp2
  refine wp_region_T (P := Tryz.prog) (fun v => v.cell? ⟨cb, 5, none⟩ = some (.slice AG gs.length cG)) 10 (by kernel_rfl) ?_ (fun hHeld => ?_)
  · first | exact HS.out _ HU4.out | exact HS.out _ HU3.out | exact HS.out _ HUD.out
  refine zT 0 ?_
  (try simp only [Act.put, sA, sB, sC])
  refine zT 1 ?_
  (try simp only [Act.put, sA, sB, sC])
  refine zT 2 ?_
  (try simp only [Act.put, sA, sB, sC])
  refine zT 4 ?_
  (try simp only [Act.put, sA, sB, sC])
  refine zT 5 ?_
  (try simp only [Act.put, sA, sB, sC])
  refine zT 6 ?_
  (try simp only [Act.put, sA, sB, sC])
  refine zT 7 ?_
  (try simp only [Act.put, sA, sB, sC])
  refine zT 8 ?_
  (try simp only [Act.put, sA, sB, sC])
  refine oT 3 (fun K hK => ?_)
  go_simp
  (go_at_call 78; refine (HRU.out _ HUD.out).mono ?_; rintro r w3 ⟨⟨A1, c1, rfl, hrw⟩, hu⟩; have HX := As.mk hrw; have HP3 := As.mk hu; have HU3 := As.mk (HUD.out.trans hu (fun _ _ h => h)); clear hrw hu)
  refine hK.out _ _ (fun _ => by first | exact HS.out _ HU4.out | exact HS.out _ HU3.out | exact HS.out _ HUD.out) (fun hHeld => ?_)
  replace hHeld := hHeld (by decide)
  clear hK K
  (try simp only [Act.put, sA, sB, sC])
  refine oT 9 (fun K hK => ?_)
  go_simp
  (go_at_call 70; refine (accepts6_calls HX.out (Rp.row_pure HG.out HU3.out) (Rp.row_pure HWD2.out HP3.out) HEW.out HOK.out.1 HOK.out.2 (by have := HWL.out; omega)).mono ?_; rintro r w4 ⟨rfl, hu⟩; have HU4 := As.mk (HU3.out.trans hu (fun _ _ h => h)); clear hu)
  refine hK.out _ _ (fun _ => by first | exact HS.out _ HU4.out | exact HS.out _ HU3.out | exact HS.out _ HUD.out) (fun hHeld => ?_)
  replace hHeld := hHeld (by decide)
  clear hK K
  (try simp only [Act.put, sA, sB, sC])
  refine oT 10 (fun K hK => ?_)
  go_simp
  refine hK.out _ _ (fun h => absurd rfl h) (fun hHeld => ?_)
  clear hK K
  (try simp only [Act.put, sA, sB, sC])
  refine wpAnyT_done (by kernel_rfl) ?_ _
  go_wp2
  go_ret
  exact ⟨rfl, HU4.out⟩
set_option maxRecDepth 100000 in
set_option maxHeartbeats 4000000 in
theorem one6_more {w : World} {cb : Nat} {F : Nat → Prop} {A : Option Addr} {c : Nat} {l : List Tok} (h : H6 w cb) (hr : tokR.row w F A l) (hb : l.length ≤ 2048) (hlc : l.length ≤ c) {k : Nat} {x : Tok} (hx : l[k]? = some x) (h2 : x.k ≠ 2) {top : Lev} {below : List Lev} (hrun : hRun hTop [] (l.take k) = some (top, below)) :
    Calls Tryz.prog 69 #[.pointer (some ⟨cb, 0, none⟩), .slice A l.length c, .int .i64 k] w fun r w' => r = .returned (.bool (one6 l k x)) ∧ Pure w w' := by
  have hk := (List.getElem?_eq_some_iff.1 hx).1
  obtain ⟨hin, a, ha, hak⟩ := at_in6 (by omega) hrun
  unfold one6
  rw [if_neg h2]
  have HAR := As.mk (around4_calls (c := c) (at' := (k : Int)) hr (by omega) hlc)
  have HWD := As.mk (fun W (hu : Pure w W) => word6_calls (c := c) (a := a) (b := k) (i := aroundL l k) (Rp.row_pure hr hu) (by omega) (by omega) hak ha)
  have HRU := As.mk (fun W (hu : Pure w W) => rule6_calls (c := c) (h.pure hu) (Rp.row_pure hr hu) hin)
  have HTK := As.mk (fun W (hu : Pure w W) => token6_calls (c := c) (h.pure hu) (Rp.row_pure hr hu) hx hin)
  obtain ⟨bt, ot, rfl, _, hbt, q0, q1, q2, q3⟩ := tok_at hr hx
  obtain ⟨AW, cW, AL, cL, AE, cE, AG, cG, hcb, c0, c1, c2, c3, c4, c5, _, _, _, hg⟩ := h.cells
  have HG := As.mk hg
  have HOK := As.mk (And.intro house_ok.gl house_ok.gt)
  have HEW := As.mk (rule6_wt l (aroundL l k))
  generalize token6 (specAt l (aroundL l k)) x = tv at *
  generalize houseGroups = gs at *
  generalize (rule6 l (aroundL l k)).2 = e at *
  generalize wordL l (aroundL l k) k = wd at *
  generalize aroundL l k = n at *
  have hil : (k : Int) < (l.length : Int) := by omega
  have e2 : (x.k == 2) = false := by simp [h2]
  clear hr hx h2 hrun h hg ha hin c0 c1 c2 c3 c4 q2 q3
  go_enter Tryz.func69, Tryz.ntmps69
  go_wp2_with (first | (go_at_call 71; refine (HWD.out _ HU1.out).mono ?_; rintro r w2 ⟨v, rfl, ho, hwl, hu⟩; have HO := As.mk ho; have HWL := As.mk hwl; have HU2 := As.mk (HU1.out.trans hu (fun _ _ h => h)); clear ho hu hwl; apply As.out) | (go_at_call 74; refine HAR.out.mono ?_; rintro r w1 ⟨rfl, hu⟩; have HU1 := As.mk hu; clear hu))
  refine ⟨?_⟩
  have q0' := (HU2.out.cell hbt (fun h => h)).trans q0
  have hbt' := Nat.lt_of_lt_of_le hbt HU2.out.size
  have HQ1 := As.mk q1
  have HC5 := As.mk c5
  clear q0 q1 c5
  cases tv with
  | false =>
    go_wp2_with (go_at_call 131; refine (HTK.out _ HU2.out).mono ?_; rintro r w3 ⟨rfl, hu⟩; have HU3 := As.mk (HU2.out.trans hu (fun _ _ h => h)); clear hu)
    go_ret
    exact ⟨rfl, HU3.out⟩
  | true =>
    go_wp2_with (go_at_call 131; refine (HTK.out _ HU2.out).mono ?_; rintro r w3 ⟨rfl, hu⟩; have HU3 := As.mk (HU2.out.trans hu (fun _ _ h => h)); have HO3 := As.mk (Rp.own_upd HO.out hu (fun _ _ _ h => h)); clear hu; apply As.out)
    refine ⟨?_⟩
    have r1 := (HU3.out.cell hbt (fun h => h)).trans HQ1.out
    have hbt3 := Nat.lt_of_lt_of_le hbt HU3.out.size
    clear q0'
    go_wp2_with (at_builtin; refine Rp.own_append intRS HO3.out x.t [.int .i64 x.t] rfl (Fp := fun _ => False) (G := fun q => w.heap.size ≤ q) (fun _ h => h.elim) (fun _ h _ => by have := HU1.out.size; omega) (fun q hq => by have := HU3.out.size; omega) rfl _ _ 83 _ 8 rfl Tryz.underlying83 int_infoS rfl (by decide) (by decide) rfl (by simp [Act.eval]) (by have := HWL.out; omega) ?_; intro v1 w4 ho1 hu1; have HO4 := As.mk ho1; have HU4 := As.mk (HU3.out.trans hu1 (fun q hq h => by have := (Rp.own_block_lt HO3.out q h).1; have := HU1.out.size; omega)); clear ho1 hu1; apply As.out)
    refine ⟨?_⟩
    obtain ⟨Av, cv, rfl, _, hrow⟩ := Rp.own_slice HO4.out
    have HW := As.mk (Rp.row_pure (Rp.row_here hrow) (Upd.refl (fun _ => False) _).drew)
    clear hrow
    have HS : As (∀ v, Pure w v → v.cell? ⟨cb, 5, none⟩ = some (.slice AG gs.length cG)) := ⟨fun v hu => (hu.cell hcb (fun h => h)).trans HC5.out⟩
    have HUD := As.mk HU4.out.drew
    have HLN : As ((wd ++ [x.t]).length ≤ 1048576 * 4) := ⟨by have := HWL.out; rw [List.length_append, List.length_singleton]; omega⟩
    have HLE : As ((wd ++ [x.t]).length = wd.length + 1) := ⟨by simp⟩
    generalize hwe : wd ++ [x.t] = wd2 at *
    have HWE := As.mk hwe
    clear hwe
    clear HC5 r1
    go_wp2
    refine wp_region_T (P := Tryz.prog) (fun v => v.cell? ⟨cb, 5, none⟩ = some (.slice AG gs.length cG)) 13 (by kernel_rfl) ?_ (fun hHeld => ?_)
    · first | exact HS.out _ HU6.out | exact HS.out _ HU5.out | exact HS.out _ HUD.out
    refine zT 0 ?_
    (try simp only [Act.put, sA, sB, sC])
    refine zT 1 ?_
    (try simp only [Act.put, sA, sB, sC])
    refine zT 2 ?_
    (try simp only [Act.put, sA, sB, sC])
    refine zT 4 ?_
    (try simp only [Act.put, sA, sB, sC])
    refine zT 5 ?_
    (try simp only [Act.put, sA, sB, sC])
    refine zT 6 ?_
    (try simp only [Act.put, sA, sB, sC])
    refine zT 7 ?_
    (try simp only [Act.put, sA, sB, sC])
    refine zT 8 ?_
    (try simp only [Act.put, sA, sB, sC])
    refine zT 10 ?_
    (try simp only [Act.put, sA, sB, sC])
    refine zT 11 ?_
    (try simp only [Act.put, sA, sB, sC])
    refine oT 3 (fun K hK => ?_)
    go_simp
    (go_at_call 78; refine (HRU.out _ HUD.out).mono ?_; rintro r w5 ⟨⟨A1, c1, rfl, hrw⟩, hu⟩; have HX := As.mk hrw; have HP5 := As.mk hu; have HU5 := As.mk (HUD.out.trans hu (fun _ _ h => h)); clear hrw hu)
    refine hK.out _ _ (fun _ => by first | exact HS.out _ HU6.out | exact HS.out _ HU5.out | exact HS.out _ HUD.out) (fun hHeld => ?_)
    replace hHeld := hHeld (by decide)
    clear hK K
    (try simp only [Act.put, sA, sB, sC])
    refine oT 9 (fun K hK => ?_)
    go_simp
    (go_at_call 132; refine (begins6_calls HX.out (Rp.row_pure HG.out HU5.out) (Rp.row_pure HW.out HP5.out) HEW.out HOK.out.1 HOK.out.2 HLN.out).mono ?_; rintro r w6 ⟨rfl, hu⟩; have HU6 := As.mk (HU5.out.trans hu (fun _ _ h => h)); clear hu)
    refine hK.out _ _ (fun _ => by first | exact HS.out _ HU6.out | exact HS.out _ HU5.out | exact HS.out _ HUD.out) (fun hHeld => ?_)
    replace hHeld := hHeld (by decide)
    clear hK K
    (try simp only [Act.put, sA, sB, sC])
    refine zT 12 ?_
    (try simp only [Act.put, sA, sB, sC])
    refine oT 13 (fun K hK => ?_)
    go_simp
    refine hK.out _ _ (fun h => absurd rfl h) (fun hHeld => ?_)
    clear hK K
    (try simp only [Act.put, sA, sB, sC])
    refine wpAnyT_done (by kernel_rfl) ?_ _
    go_wp2
    go_ret
    refine ⟨?_, HU6.out⟩
    rw [← HLE.out]
    have hd : ((regBegins e gs wd2 : Int) == (wd2.length : Int)) = decide (regBegins e gs wd2 = wd2.length) := by rw [Bool.eq_iff_iff]; simp; omega
    rw [HWE.out, Bool.true_and, ← hd]
    rfl
theorem one6_calls {w : World} {cb : Nat} {F : Nat → Prop} {A : Option Addr} {c : Nat} {l : List Tok} (h : H6 w cb) (hr : tokR.row w F A l) (hb : l.length ≤ 2048) (hlc : l.length ≤ c) {k : Nat} {x : Tok} (hx : l[k]? = some x) {top : Lev} {below : List Lev} (hrun : hRun hTop [] (l.take k) = some (top, below)) :
    Calls Tryz.prog 69 #[.pointer (some ⟨cb, 0, none⟩), .slice A l.length c, .int .i64 k] w fun r w' => r = .returned (.bool (one6 l k x)) ∧ Pure w w' := by
  by_cases h2 : x.k = 2
  · exact one6_shut h hr hb hlc hx h2 hrun
  · exact one6_more h hr hb hlc hx h2 hrun
end Go.Proofs.YtofjodppljnlaaaGreatDoor
namespace Go.Proofs.YtofjodppljnlaaaGreatDoor
open Go.RowKit
set_option linter.unusedVariables false
set_option linter.unusedSimpArgs false
theorem run_next {l : List Tok} {k : Nat} {x : Tok} {top : Lev} {below : List Lev} (hx : l[k]? = some x) (hrun : hRun hTop [] (l.take k) = some (top, below)) (hf : (fcGo k below.length (l.drop k)).2 = 0) (hone : one6 l k x = true) :
    ∃ t z, hRun hTop [] (l.take (k + 1)) = some (t, z) ∧ (fcGo (k + 1) z.length (l.drop (k + 1))).2 = 0 := by
  rw [drop_cons hx] at hf
  generalize l.drop (k + 1) = r at *
  have hf' : fcGo k below.length (x :: r) = ((fcGo k below.length (x :: r)).1, 0) := by rw [← hf]
  rw [one_step hx (fc_right hf') hrun] at hone
  have hrn : ∀ (t : Lev) (z : List Lev), hRun top below [x] = some (t, z) → hRun hTop [] (l.take (k + 1)) = some (t, z) := by
    intro t z e
    rw [List.take_add_one, hx]
    unfold hRun at hrun e ⊢
    rw [ckRun_app, hrun]
    exact e
  by_cases h2 : x.k = 2
  · rw [if_pos h2] at hone
    obtain ⟨hn, hf2⟩ := fc_close hf' h2
    cases below with
    | nil => simp at hn
    | cons p q =>
      refine ⟨p, q, hrn p q ?_, ?_⟩
      · unfold hRun
        rw [ckRun_cons, if_pos h2]
        simp only
        rw [if_pos hone]
        rfl
      · have : (p :: q).length - 1 = q.length := by simp
        rw [this] at hf2
        rw [hf2]
  · rw [if_neg h2] at hone
    by_cases h1 : x.k = 1
    · obtain ⟨_, hf2⟩ := fc_open hf' h1
      refine ⟨(ruleOf houseRules x.t, []), (top.1, top.2 ++ [x.t]) :: below, hrn _ _ ?_, by rw [List.length_cons, hf2]⟩
      unfold hRun
      rw [ckRun_cons, if_neg h2, if_pos hone, if_pos h1]
      rfl
    · have hf2 := fc_else hf' h1 h2
      refine ⟨(top.1, top.2 ++ [x.t]), below, hrn _ _ ?_, by rw [hf2]⟩
      unfold hRun
      rw [ckRun_cons, if_neg h2, if_pos hone, if_neg h1]
      rfl
/-- What the loop keeps: the run so far. -/
def RunTo (l : List Tok) (k : Nat) : Prop := ∃ top below, hRun hTop [] (l.take k) = some (top, below) ∧ (fcGo k below.length (l.drop k)).2 = 0
theorem flat_le {l : List Tok} (hf : (flatCheck l).2 = 0) : l.length ≤ 2048 := by
  apply Nat.le_of_not_lt
  intro h
  unfold flatCheck at hf
  rw [if_pos (by omega)] at hf
  cases hf
theorem flat_go {l : List Tok} (hf : (flatCheck l).2 = 0) : (fcGo 0 0 l).2 = 0 := by
  have := flat_le hf
  unfold flatCheck at hf
  rw [if_neg (by omega)] at hf
  exact hf
set_option maxRecDepth 100000 in
set_option maxHeartbeats 4000000 in
theorem Check6_flat {w : World} {cb : Nat} {F : Nat → Prop} {A : Option Addr} {c : Nat} {l : List Tok} (hr : tokR.row w F A l) (hb : l.length ≤ 1048576 * 4) (hf : (flatCheck l).2 ≠ 0) :
    Calls Tryz.prog 16 #[.pointer (some ⟨cb, 0, none⟩), .slice A l.length c] w fun e w' => e = .returned (.tuple #[.int .i64 (flatCheck l).1, .int .i64 (flatCheck l).2]) ∧ Pure w w' := by
  have HCK := As.mk (Check4_calls (c := c) hr hb)
  have f1 : ((flatCheck l).2 != 0) = true := by simpa using hf
  generalize flatCheck l = fc at *
  obtain ⟨p, q⟩ := fc
  clear hr hf
  go_enter Tryz.func16, Tryz.ntmps16
  go_wp2_with (go_at_call 68; refine HCK.out.mono ?_; rintro r w1 ⟨rfl, hu⟩; have HU1 := As.mk hu; clear hu)
  exact bodyPost_ret (results_tmp2 rfl _ _ _) rfl ⟨rfl, HU1.out⟩
set_option maxRecDepth 100000 in
set_option maxHeartbeats 4000000 in
theorem Check6_main {w : World} {cb : Nat} {F : Nat → Prop} {A : Option Addr} {c : Nat} {l : List Tok} (h : H6 w cb) (hr : tokR.row w F A l) (hlc : l.length ≤ c) (hf : (flatCheck l).2 = 0) :
    Calls Tryz.prog 16 #[.pointer (some ⟨cb, 0, none⟩), .slice A l.length c] w fun e w' => e = .returned (.tuple #[.int .i64 (ck6 l 0 l).1, .int .i64 (ck6 l 0 l).2]) ∧ Pure w w' := by
  have hb := flat_le hf
  have HCK := As.mk (Check4_calls (c := c) hr (by omega))
  have HRT := As.mk (show RunTo l 0 from ⟨hTop, [], rfl, flat_go hf⟩)
  rw [hf] at HCK
  generalize (flatCheck l).1 = p at *
  have HONE := As.mk (fun W (hu : Pure w W) (k : Nat) (x : Tok) (hx : l[k]? = some x) (hrt : RunTo l k) => show Calls Tryz.prog 69 #[.pointer (some ⟨cb, 0, none⟩), .slice A l.length c, .int .i64 k] W _ from by
    obtain ⟨top, below, hrun, _⟩ := hrt
    exact one6_calls (c := c) (h.pure hu) (Rp.row_pure hr hu) hb hlc hx hrun)
  have HNX := As.mk (fun (k : Nat) (x : Tok) (hx : l[k]? = some x) (hrt : RunTo l k) (ho : one6 l k x = true) => show RunTo l (k + 1) from by
    obtain ⟨top, below, hrun, hf⟩ := hrt
    exact run_next hx hrun hf ho)
  have HWD := As.mk (fun W (hu : Pure w W) => word6_calls (c := c) (a := 0) (b := l.length) (i := -1) (Rp.row_pure hr hu) (by omega) (Nat.le_refl _) (Nat.zero_le _) (by omega))
  obtain ⟨AW, cW, AL, cL, AE, cE, AG, cG, hcb, c0, c1, c2, c3, c4, c5, hw0, _, _, hg⟩ := h.cells
  have HAC := As.mk (fun W (hu : Pure w W) (Aw : Option Addr) (cw : Nat) (G : Nat → Prop) (hwl : (wordL l (-1) l.length).length ≤ 1048576 * 4) (hw : intR.row W G Aw (wordL l (-1) l.length)) => accepts6_calls (c := cW) (d := cG) (cw := cw) (Rp.row_pure hw0 hu) (Rp.row_pure hg hu) hw (by have := rule6_wt l (-1); exact this) house_ok.gl house_ok.gt hwl)
  have HE := As.mk (show (ruleOf houseRules 0).2 = houseE0 from rfl)
  have HS : As (∀ v, Pure w v → v.cell? ⟨cb, 0, none⟩ = some (.int .i64 houseE0.k) ∧ v.cell? ⟨cb, 1, none⟩ = some (.string houseE0.name) ∧ v.cell? ⟨cb, 2, none⟩ = some (.slice AW houseE0.l.length cW) ∧ v.cell? ⟨cb, 5, none⟩ = some (.slice AG houseGroups.length cG)) := ⟨fun v hu => ⟨(hu.cell hcb (fun h => h)).trans c0, (hu.cell hcb (fun h => h)).trans c1, (hu.cell hcb (fun h => h)).trans c2, (hu.cell hcb (fun h => h)).trans c5⟩⟩
  have HCK6 := As.mk (show ck6 l 0 (l.drop 0) = ck6 l 0 l from rfl)
  have HC6 := As.mk (fun k x (hx : l[k]? = some x) => show ck6 l k (l.drop k) = if one6 l k x = true then ck6 l (k + 1) (l.drop (k + 1)) else ((k : Int), 9) by rw [drop_cons hx, ck6])
  have HEND := As.mk (show ck6 l l.length (l.drop l.length) = ((l.length : Int), if regAccepts houseE0 houseGroups (wordL l (-1) l.length) = true then (0 : Int) else 9) by rw [List.drop_length, ck6, HE.out])
  generalize ck6 l 0 l = res at *
  generalize houseGroups = gs at *
  generalize houseE0 = e0 at *
  generalize wordL l (-1) l.length = wd at *
  obtain ⟨k0, nm, l0⟩ := e0
  unfold Ex.val at *
  clear h hr hf hw0 hg c0 c1 c2 c3 c4 c5 HE
  go_enter Tryz.func16, Tryz.ntmps16
  go_wp2_with (go_at_call 68; refine HCK.out.mono ?_; rintro r w1 ⟨rfl, hu⟩; have HU1 := As.mk hu; clear hu)
  go_loopg [8] l.length (fun gg i wr => ∃ k : Nat, k + gg = l.length ∧ i = .int .i64 k ∧ As (Pure w wr) ∧ As (RunTo l k) ∧ As (ck6 l k (l.drop k) = res))
  case atStart => exact ⟨0, by omega, rfl, HU1, HRT, HCK6⟩
  case round =>
    clear HRT HCK6 HU1
    obtain ⟨k, hk, rfl, HP, HRT, HRES⟩ := hrel
    by_cases hlt : k < l.length
    · obtain ⟨x, hx⟩ : ∃ x, l[k]? = some x := ⟨_, List.getElem?_eq_getElem hlt⟩
      obtain ⟨g1, rfl⟩ : ∃ m, gk = m + 1 := ⟨gk - 1, by omega⟩
      have HO := As.mk (HONE.out _ HP.out k x hx HRT.out)
      have HN := As.mk (HNX.out k x hx HRT.out)
      have HR2 := HRES.out
      rw [HC6.out k x hx] at HR2
      have HK := As.mk hk
      clear hx hk HRES
      generalize one6 l k x = ob at *
      cases ob with
      | false =>
        have HR3 := As.mk HR2
        clear HR2
        go_wp2_with (go_at_call 69; refine HO.out.mono ?_; rintro r w2 ⟨rfl, hu⟩; have HU2 := As.mk (HP.out.trans hu (fun _ _ h => h)); clear hu)
        exact bodyPost_ret (results_tmp2 rfl _ _ _) rfl ⟨by rw [← HR3.out]; rfl, HU2.out⟩
      | true =>
        have HR3 := As.mk (show ck6 l (k + 1) (l.drop (k + 1)) = res from HR2)
        clear HR2
        go_wp2_with (go_at_call 69; refine HO.out.mono ?_; rintro r w2 ⟨rfl, hu⟩; have HU2 := As.mk (HP.out.trans hu (fun _ _ h => h)); clear hu)
        go_roundg g1
        case measure => omega
        case rel => exact ⟨k + 1, by have := HK.out; omega, by go_num, HU2, ⟨HN.out trivial⟩, HR3⟩
    · obtain rfl : k = l.length := by omega
      have HR3 := As.mk (HEND.out.symm.trans HRES.out)
      have HUD := As.mk HP.out.drew
      clear HRES HRT HC6 HEND HONE HNX
      cases hac : regAccepts (.mk k0 nm l0) gs wd <;> rw [hac] at HAC HR3
      all_goals
        go_wp2
        refine wp_region_held_drew (S := (fun v => v.cell? ⟨cb, 0, none⟩ = some (.int .i64 (Ex.mk k0 nm l0).k) ∧ v.cell? ⟨cb, 1, none⟩ = some (.string (Ex.mk k0 nm l0).name) ∧ v.cell? ⟨cb, 2, none⟩ = some (.slice AW (Ex.mk k0 nm l0).l.length cW) ∧ v.cell? ⟨cb, 5, none⟩ = some (.slice AG gs.length cG))) (by kernel_rfl) ?_ (fun hHeld => ?_)
        · first | exact HS.out _ HU4.out | exact HS.out _ HU3.out | exact HS.out _ HUD.out
        refine zH 0 ?_
        (try simp only [Act.put, sA, sB, sC])
        refine zH 1 ?_
        (try simp only [Act.put, sA, sB, sC])
        refine zH 2 ?_
        (try simp only [Act.put, sA, sB, sC])
        refine zH 3 ?_
        (try simp only [Act.put, sA, sB, sC])
        refine zH 4 ?_
        (try simp only [Act.put, sA, sB, sC])
        refine zH 5 ?_
        (try simp only [Act.put, sA, sB, sC])
        refine zH 6 ?_
        (try simp only [Act.put, sA, sB, sC])
        refine zH 7 ?_
        (try simp only [Act.put, sA, sB, sC])
        refine zH 8 ?_
        (try simp only [Act.put, sA, sB, sC])
        refine zH 9 ?_
        (try simp only [Act.put, sA, sB, sC])
        refine zH 10 ?_
        (try simp only [Act.put, sA, sB, sC])
        refine wpAnyH_ready (rs := [11]) (by kernel_rfl) (by simp) (AllReadyH.cons (o := { dst := (some 41), op := (Go.Op.call { callee := (Go.Callee.value (Go.Operand.func 71)), args := #[(Go.Operand.tmp 38), (Go.Operand.const (Go.Value.int Go.IntKind.i64 (-1))), (Go.Operand.tmp 40)], argTypes := #[22, 3, 3] }), type := 83, pos := "ref.go:177", after := #[{ on := 8, ground := Go.Ground.data }, { on := 10, ground := Go.Ground.data }], guard := none }) rfl (fun K hK => ?_) AllReadyH.nil)
        go_simp
        first | (go_at_call 70; refine (HAC.out _ HU3.out _ _ _ (by have := HWL.out; omega) HRW.out).mono ?_; rintro r w4 ⟨rfl, hu⟩; have HU4 := As.mk (HU3.out.trans hu (fun _ _ h => h)); clear hu) | (go_at_call 71; refine (HWD.out _ HUD.out).mono ?_; rintro r w3 ⟨v, rfl, ho, hwl, hu⟩; have HU3 := As.mk (HUD.out.trans hu (fun _ _ h => h)); obtain ⟨Av, cv, rfl, _, hrow⟩ := Rp.own_slice ho; have HRW := As.mk hrow; have HWL := As.mk hwl; clear ho hwl hu hrow)
        refine hK.out _ _ (by first | exact HS.out _ HU4.out | exact HS.out _ HU3.out | exact HS.out _ HUD.out) (fun hHeld => ?_)
        clear hK K
        (try simp only [Act.put, sA, sB, sC])
        refine wpAnyH_ready (rs := [12]) (by kernel_rfl) (by simp) (AllReadyH.cons (o := { dst := (some 42), op := (Go.Op.call { callee := (Go.Callee.value (Go.Operand.func 70)), args := #[(Go.Operand.tmp 33), (Go.Operand.tmp 37), (Go.Operand.tmp 41)], argTypes := #[92, 86, 83] }), type := 4, pos := "ref.go:177", after := #[{ on := 3, ground := Go.Ground.data }, { on := 7, ground := Go.Ground.data }, { on := 11, ground := Go.Ground.data }, { on := 11, ground := Go.Ground.chain }], guard := none }) rfl (fun K hK => ?_) AllReadyH.nil)
        go_simp
        first | (go_at_call 70; refine (HAC.out _ HU3.out _ _ _ (by have := HWL.out; omega) HRW.out).mono ?_; rintro r w4 ⟨rfl, hu⟩; have HU4 := As.mk (HU3.out.trans hu (fun _ _ h => h)); clear hu) | (go_at_call 71; refine (HWD.out _ HUD.out).mono ?_; rintro r w3 ⟨v, rfl, ho, hwl, hu⟩; have HU3 := As.mk (HUD.out.trans hu (fun _ _ h => h)); obtain ⟨Av, cv, rfl, _, hrow⟩ := Rp.own_slice ho; have HRW := As.mk hrow; have HWL := As.mk hwl; clear ho hwl hu hrow)
        refine hK.out _ _ (by first | exact HS.out _ HU4.out | exact HS.out _ HU3.out | exact HS.out _ HUD.out) (fun hHeld => ?_)
        clear hK K
        (try simp only [Act.put, sA, sB, sC])
        refine zH 13 ?_
        (try simp only [Act.put, sA, sB, sC])
        refine wpAnyH_done (by kernel_rfl) ?_ _
        go_wp2
        exact bodyPost_ret (results_tmp2 rfl _ _ _) rfl ⟨by rw [← HR3.out]; rfl, HU4.out⟩
theorem Check6_calls {w : World} {cb : Nat} {F : Nat → Prop} {A : Option Addr} {c : Nat} {l : List Tok} (h : H6 w cb) (hr : tokR.row w F A l) (hlc : l.length ≤ c) (hb : l.length ≤ 1048576 * 4) :
    Calls Tryz.prog 16 #[.pointer (some ⟨cb, 0, none⟩), .slice A l.length c] w fun e w' => e = .returned (.tuple #[.int .i64 (houseCheck l).1, .int .i64 (houseCheck l).2]) ∧ Pure w w' := by
  rw [← check6_eq]
  unfold check6
  by_cases hf : (flatCheck l).2 = 0
  · rw [if_pos hf]
    exact Check6_main h hr hlc hf
  · rw [if_neg hf]
    exact Check6_flat hr hb hf
end Go.Proofs.YtofjodppljnlaaaGreatDoor
namespace Go.Proofs.YtofjodppljnlaaaGreatDoor
open Go.RowKit
set_option linter.unusedVariables false
set_option linter.unusedSimpArgs false
theorem fold_wd : ∀ (r : List Tok) (d : Int) (w : List Int), r.foldl wdStep (d, w) = ((r.foldl wdStep (d, [])).1, w ++ (r.foldl wdStep (d, [])).2) := by
  intro r
  induction r with
  | nil => intro d w; simp
  | cons x r ih =>
    intro d w
    have h1 : ∀ w : List Int, wdStep (d, w) x = ((wdStep (d, []) x).1, w ++ (wdStep (d, []) x).2) := by
      intro w
      unfold wdStep
      by_cases h : d = 0 ∧ x.k ≠ 2
      · simp [h]
      · simp only [if_neg h, List.append_nil]
    rw [List.foldl_cons, List.foldl_cons, h1 w]
    generalize wdStep (d, []) x = p
    obtain ⟨D, W⟩ := p
    rw [ih D (w ++ W), ih D W, List.append_assoc]
theorem wd_split {l : List Tok} {i : Int} {n e : Nat} {w : List Int} (hi : i < n) (h1 : -1 ≤ i) (hne : n ≤ e) (hn : n ≤ l.length) (h : wdGo l i n = (0, w)) : wdGo l i e = ((wdGo l ((n : Int) - 1) e).1, w ++ (wdGo l ((n : Int) - 1) e).2) := by
  have hsplit : (l.take e).drop (i + 1).toNat = (l.take n).drop (i + 1).toNat ++ (l.take e).drop n := by
    have e1 : l.take e = l.take n ++ (l.take e).drop n := by
      have := (List.take_append_drop n (l.take e)).symm
      rwa [List.take_take, Nat.min_eq_left hne] at this
    conv => lhs; rw [e1]
    rw [List.drop_append_of_le_length (by rw [List.length_take]; omega)]
  unfold wdGo at h ⊢
  rw [Int.toNat_natCast] at h ⊢
  rw [hsplit, List.foldl_append, h, fold_wd, show ((n : Int) - 1 + 1).toNat = n by omega]
theorem dpt_part : ∀ (L : List Tok) (n d j : Nat), dpt n L = some 0 → 1 ≤ d → d ≤ n → ∃ k, ptGo j (d : Int) L = some k := by
  intro L
  induction L with
  | nil =>
    intro n d j h h1 h2
    simp only [dpt, Option.some.injEq] at h
    omega
  | cons x r ih =>
    intro n d j h h1 h2
    rw [dpt] at h
    rw [ptGo]
    by_cases hk : x.k = 1
    · rw [if_pos hk] at h ⊢
      exact ih (n + 1) (d + 1) (j + 1) h (by omega) (by omega)
    · rw [if_neg hk] at h ⊢
      by_cases hk2 : x.k = 2
      · rw [if_pos hk2] at h ⊢
        rw [if_neg (by omega)] at h
        by_cases hd : d = 1
        · exact ⟨j, by rw [if_pos (by omega)]⟩
        · rw [if_neg (by omega), show (d : Int) - 1 = ((d - 1 : Nat) : Int) by omega]
          exact ih (n - 1) (d - 1) (j + 1) h (by omega) (by omega)
      · rw [if_neg hk2] at h ⊢
        exact ih n d (j + 1) h h1 h2
theorem dpt6 {l : List Tok} (ok : (houseCheck l).2 = 0) : dpt 0 l = some 0 := dpt_fc l 0 0 ((house_iff l).1 ok).2.1
theorem dpt_mono : ∀ (B R : List Tok) (c : Tok), c.k = 2 → dpt 0 B = some 0 → dpt 0 (B ++ c :: R) = none := by
  intro B R c hc h
  rw [dpt_app, h]
  show dpt 0 (c :: R) = none
  rw [dpt, if_neg (by omega), if_pos hc, if_pos rfl]
/-- The partner of what is open at a place: behind it; there that is open again. -/
theorem part_at {l : List Tok} (ok : (houseCheck l).2 = 0) {n j : Nat} (hn : n ≤ l.length) (ha : aroundL l n = (j : Int)) : ∃ e : Nat, partL l j = (e : Int) ∧ j < n ∧ n ≤ e ∧ e < l.length ∧ aroundL l e = (j : Int) := by
  have hd := dpt6 ok
  have hne : stackL l n ≠ [] := by
    intro h
    unfold aroundL at ha
    rw [h] at ha
    simp at ha
  obtain ⟨s, p, hs⟩ : ∃ s p, stackL l n = s ++ [p] := ⟨_, _, (List.dropLast_concat_getLast hne).symm⟩
  rw [stack_at6 hn] at hs
  obtain ⟨i, o, B, rfl, hin, ho, h1, htk, hB, _⟩ := around_piece hd n hn s p hs
  have hij : i = j := by
    unfold aroundL at ha
    rw [stack_at6 hn, hs] at ha
    simp at ha
    omega
  subst hij
  have hil : i < l.length := (List.getElem?_eq_some_iff.1 ho).1
  -- the depth at i
  have hsplit : l = l.take i ++ (o :: l.drop (i + 1)) := by rw [← drop_cons ho, List.take_append_drop]
  have hd2 := hd
  rw [hsplit, dpt_app] at hd2
  obtain ⟨m, hm1, hm2⟩ := Option.bind_eq_some_iff.1 hd2
  rw [dpt, if_pos h1] at hm2
  obtain ⟨k, hk⟩ := dpt_part (l.drop (i + 1)) (m + 1) 1 1 hm2 (Nat.le_refl _) (by omega)
  have hpt : ptGo 0 0 (l.drop i) = some k := by
    rw [drop_cons ho, ptGo, if_pos h1]
    exact hk
  have hpart : partL l i = (i : Int) + k := by unfold partL; rw [hpt]
  obtain ⟨B', c, R, hL, hc, hB', hk'⟩ := pt_split (l.drop (i + 1)) 0 1 k (by simpa using hk)
  have hlenL : (l.drop (i + 1)).length = l.length - (i + 1) := List.length_drop
  have hlen2 : (l.drop (i + 1)).length = B'.length + (R.length + 1) := by rw [hL]; simp
  -- B is what stands up to n
  have hBt : (l.drop (i + 1)).take (n - (i + 1)) = B := by
    have e1 : l.take n = l.take i ++ o :: (l.drop (i + 1)).take (n - (i + 1)) := by
      have : n = i + 1 + (n - (i + 1)) := by omega
      conv => lhs; rw [this]
      rw [List.take_add, List.take_add_one, ho]
      simp
    rw [htk] at e1
    have := List.append_cancel_left e1
    injection this with _ h2
    exact h2.symm
  have hle : n - (i + 1) ≤ B'.length := by
    apply Nat.le_of_not_lt
    intro hlt
    have hB2 : B = B' ++ c :: (R.take (n - (i + 1) - B'.length - 1)) := by
      rw [← hBt, hL, List.take_append, List.take_of_length_le (by omega)]
      congr 1
      have : n - (i + 1) - B'.length = (n - (i + 1) - B'.length - 1) + 1 := by omega
      rw [this, List.take_succ_cons]
      simp
    rw [hB2, dpt_mono B' _ c hc hB'] at hB
    cases hB
  refine ⟨i + 1 + B'.length, by rw [hpart, hk']; omega, hin, by omega, by omega, ?_⟩
  refine (around_rel ho h1 (by omega) (n := 0) ?_).2 rfl
  rw [hL, List.take_left' rfl]
  exact hB'
def end6 (l : List Tok) (i : Int) : Int := if i < 0 then (l.length : Int) else partL l i.toNat
def may6 (l : List Tok) (n t : Int) : Bool := regAccepts (rule6 l (aroundL l n)).2 houseGroups (wordL l (aroundL l n) n ++ [t] ++ wordL l (n - 1) (end6 l (aroundL l n)))
/-- The run up to a place: its top's rule and words. -/
theorem lv_at {l : List Tok} (ok : (houseCheck l).2 = 0) {n : Nat} (hn : n ≤ l.length) : ∃ top below, Lv l n 0 (stackL l n) top below ∧ Wd top := by
  obtain ⟨top, below, h1, _, hR, _⟩ := at_level ok hn
  exact ⟨top, below, run_lv hn h1, hR.wd.2.1⟩
theorem lv_word {l : List Tok} (ok : (houseCheck l).2 = 0) {n : Nat} (hn : n ≤ l.length) : ∃ top : Lev, Wd top ∧ wdGo l (aroundL l n) n = (0, top.2) ∧ aroundL l n < n ∧ -1 ≤ aroundL l n ∧ top.1 = rule6 l (aroundL l n) := by
  obtain ⟨top, below, HL, hw⟩ := lv_at ok hn
  refine ⟨top, hw, ?_⟩
  unfold aroundL
  rcases HL.inv with ⟨h1, h2, h3⟩ | ⟨j, yt, y, h1, hy, hy1, hyt, hyt1, hR, hj, h3⟩
  · rw [h1]
    exact ⟨h3, by omega, by omega, by rw [h2]; unfold rule6; rw [if_pos (by decide)]⟩
  · rw [h1]
    refine ⟨h3, by omega, by omega, ?_⟩
    unfold rule6 tyAt
    rw [if_neg (by omega), Int.toNat_natCast, hy]
    show _ = ruleOf houseRules y.t
    rw [hyt, rule_get hR]
theorem around_last {l : List Tok} (ok : (houseCheck l).2 = 0) : aroundL l (l.length : Int) = -1 := by
  obtain ⟨top, below, h1, h2, _, hM⟩ := at_level ok (Nat.le_refl l.length)
  have hb : below = [] := by
    obtain ⟨t, h3, _⟩ := h2
    rw [List.drop_length] at h3
    simp only [hRun, ckRun, Option.some.injEq, Prod.mk.injEq] at h3
    exact h3.2
  subst hb
  unfold aroundL
  generalize stackL l (l.length : Int) = s at hM
  cases hM
  rfl
theorem end_at {l : List Tok} (ok : (houseCheck l).2 = 0) {n : Nat} (hn : n ≤ l.length) : ∃ e : Nat, end6 l (aroundL l n) = (e : Int) ∧ n ≤ e ∧ e ≤ l.length ∧ aroundL l e = aroundL l n := by
  unfold end6
  obtain ⟨top, hw, hwd, h1, h2, h3⟩ := lv_word ok hn
  by_cases ha : aroundL l n < 0
  · have ha1 : aroundL l n = -1 := by omega
    rw [if_pos ha]
    exact ⟨l.length, rfl, hn, Nat.le_refl _, by rw [around_last ok, ha1]⟩
  · obtain ⟨j, hj⟩ : ∃ j : Nat, aroundL l n = (j : Int) := ⟨(aroundL l n).toNat, by omega⟩
    rw [if_neg ha, hj, Int.toNat_natCast]
    obtain ⟨e, he, _, hle, hl2, hae⟩ := part_at ok hn hj
    exact ⟨e, he, hle, by omega, hae⟩
theorem rule_sig (l : List Tok) (n : Int) : Sig houseGroups (rule6 l n).2 := by
  unfold rule6
  split
  · exact house_sig 0
  · exact house_sig _
/-- What May of the reference answers at a place of a document. -/
theorem may6_iff {l : List Tok} (ok : (houseCheck l).2 = 0) {n : Nat} (hn : n ≤ l.length) (t : Int) : may6 l n t = true ↔ t ∈ tyR (rule6 l (aroundL l n)) := by
  obtain ⟨top, hw, hwd, h1, h2, h3⟩ := lv_word ok hn
  obtain ⟨e, he, hne, hel, hae⟩ := end_at ok hn
  obtain ⟨top2, hw2, hwd2, _, _, h4⟩ := lv_word ok hel
  rw [hae] at hwd2 h4
  have hsp := wd_split h1 h2 hne hn hwd
  rw [hwd2] at hsp
  have hmem : ∀ u ∈ top.2 ++ (wdGo l ((n : Int) - 1) e).2, u ∈ tyR (rule6 l (aroundL l n)) := by
    intro u hu
    have : top2.2 = top.2 ++ (wdGo l ((n : Int) - 1) e).2 := by injection hsp
    rw [← this] at hu
    rw [← h4]
    exact hw2.2 u hu
  unfold may6 wordL
  rw [he, hwd]
  rw [(rule_sig l (aroundL l n)).acc]
  constructor
  · exact fun h => h.2 t (by simp)
  · intro h
    refine ⟨fun hz => by simp at hz, fun u hu => ?_⟩
    rcases List.mem_append.1 hu with hu | hu
    · rcases List.mem_append.1 hu with hu | hu
      · exact hmem u (by simp [hu])
      · rw [List.mem_singleton.1 hu]; exact h
    · exact hmem u (by simp [hu])
theorem atp_rule {l : List Tok} {n : Nat} {R : Spec × Ex} (h : AtP l n R) : R = rule6 l (aroundL l n) := by
  unfold rule6
  rcases h.whole with ⟨ha, h0⟩ | ⟨j, yt, y, ha, hy, hy1, hyt, hyt1, hR⟩
  · rw [ha, if_pos (by decide)]
    exact (rule_get (yt := 0) h0).symm
  · rw [ha, if_neg (by omega)]
    unfold tyAt
    rw [Int.toNat_natCast, hy]
    show R = ruleOf houseRules y.t
    rw [hyt, rule_get hR]
/-- Both answer the same. -/
theorem may_same {l : List Tok} (ok : (houseCheck l).2 = 0) {n : Nat} (hn : n ≤ l.length) {R : Spec × Ex} (h : AtP l n R) (t : Int) : regAccepts R.2 houseGroups (mayGo l n t (kidsL l (aroundL l n)) false) = may6 l n t := by
  rw [Bool.eq_iff_iff, may6_iff ok hn, ← atp_rule h, h.wd.sig.acc]
  constructor
  · exact fun ⟨_, h1⟩ => h1 t (mayGo_in l n t _)
  · intro h0
    refine ⟨fun e => ?_, fun u hu => ?_⟩
    · have := mayGo_in l n t (kidsL l (aroundL l n))
      rw [e] at this
      cases this
    · rcases mayGo_mem l n t _ _ u hu with rfl | ⟨p, hp, rfl⟩
      · exact h0
      · obtain ⟨i, x, rfl, hx, hxt⟩ := h.kids p hp
        unfold tyAt
        rw [Int.toNat_natCast, hx]
        exact hxt
end Go.Proofs.YtofjodppljnlaaaGreatDoor
namespace Go.Proofs.YtofjodppljnlaaaGreatDoor
open Go.RowKit
set_option linter.unusedVariables false
set_option linter.unusedSimpArgs false
theorem step_store_row {P : Program} {ops : Array Oper} {o : Oper} {a : Act} {w : World} {K : Act → World → Prop} {Q : Exit → Act → World → Prop} {E : Prop} (hgd : o.guard = none) (ty : TypeId) (x y : Operand) (ho : o.op = .store ty x y)
    (g : Nat) (cells : Array Value) (hx : a.eval x = .pointer (some ⟨g, 0, none⟩)) (hy : a.eval y = .agg cells) (t : TypeId) (old : Array Value) (hg : w.heap[g]? = some (.cells old t (0, 0))) (hi : (P.info? ty).map (·.size) = some cells.size)
    (hold : old.size = cells.size) (h1 : cells.all (·.oneCell') = true) (h : K (a.put o.dst undef) (w.setRow g cells)) : if Region.wanted o (yielded ops a.tmps) = true then Oper.wp P o a w K Q else E := by
  rw [if_pos (by simp [Region.wanted, hgd])]
  exact wp_store_row ty x y ho g cells hx hy t old hg hi hold h1 h
theorem setRow_upd (w : World) (g : Nat) (cells : Array Value) : Upd (fun q => q = g) w (w.setRow g cells) := ⟨rfl, rfl, rfl, by simp [World.setRow], fun k _ hn => setRow_other w g k _ hn⟩
theorem rule_row {w : World} {cb : Nat} (h : SchR w cb houseRules houseGroups) : ∃ b0 o0 cL AG cG, w.cell? ⟨cb, 0, none⟩ = some (.slice (some ⟨b0, o0, none⟩) 8 cL) ∧ w.cell? ⟨cb, 1, none⟩ = some (.slice AG houseGroups.length cG) ∧ cb < w.heap.size ∧ 8 ≤ cL ∧ b0 < w.heap.size ∧ ruleR.row w (fun _ => True) (some ⟨b0, o0, none⟩) houseRules ∧ grpR.row w (fun _ => True) AG houseGroups := by
  obtain ⟨AL, cL, AG, cG, p0, p1, hcb, hle, hrow, hg⟩ := h.cells
  rw [house_len] at p0 hle
  obtain ⟨y, hy⟩ : ∃ y, houseRules[0]? = some y := ⟨_, List.getElem?_eq_getElem (by rw [house_len]; decide)⟩
  obtain ⟨x0, e0⟩ := y
  obtain ⟨b0, o0, A1, c1, rfl, _, hb0, _⟩ := rule_at hrow hy
  exact ⟨b0, o0, cL, AG, cG, p0, p1, hcb, hle, hb0, hrow, hg⟩
set_option maxRecDepth 100000 in
set_option maxHeartbeats 4000000 in
theorem May_whole {w : World} {cb : Nat} {F : Nat → Prop} {A : Option Addr} {c : Nat} {l : List Tok} {n : Nat} {t : Int} {R : Spec × Ex} (h : SchR w cb houseRules houseGroups) (hr : tokR.row w F A l) (hb : l.length ≤ 2048) (hlc : l.length ≤ c) (ok : (houseCheck l).2 = 0) (hn : n ≤ l.length) (hP : AtP l n R) (hw : aroundL l n = -1 ∧ houseRules[0]? = some R) :
    Calls Tryz.prog 19 #[.pointer (some ⟨cb, 0, none⟩), .slice A l.length c, .int .i64 n, .int .i64 t] w fun r w' => r = .returned (.bool (regAccepts R.2 houseGroups (mayGo l n t (kidsL l (aroundL l n)) false))) ∧ Pure w w' := by
  have HS := As.mk h
  have HR := As.mk hr
  have HKD0 := As.mk hP.kids
  have HCK := As.mk (house_check (c := c) h hr (by omega))
  rw [ok] at HCK
  have HAR := As.mk (fun (W : World) (hu : Pure w W) => around_calls (c := c) (at' := (n : Int)) (Rp.row_pure hr hu) (by omega) hlc)
  have ha : aroundL l n = -1 := hw.1
  have HKI := As.mk (fun (W : World) (hu : Pure w W) => Kids_whole (c := c) (Rp.row_pure hr hu) (by omega))
  obtain ⟨x0, e0⟩ := R
  have hy0 := hw.2
  rw [ha] at HAR HKD0
  rw [ha]
  have HKL := As.mk (show (kidsL l (-1)).length ≤ 2048 by have := kidsL_len l (-1); omega)
  obtain ⟨b0, o0, cL, AG, cG, p0, p1, hcb, hle, hb0, hrow, hgrow⟩ := rule_row h
  have HG := As.mk hgrow
  obtain ⟨b0', o0', A1, c1, hA, _, _, d0, d1, d2, d3, d4, d5, d6, d7, d8, d9, hl1, hx1⟩ := rule_at hrow hy0
  simp only [Option.some.injEq, Addr.mk.injEq] at hA
  obtain ⟨rfl, rfl, _⟩ := hA
  simp only [Nat.zero_mul, Nat.add_zero] at d0 d1 d2 d3 d4 d5 d6 d7 d8 d9
  have HMEM := As.mk (List.mem_of_getElem? hy0)
  have HXR := As.mk hx1
  have HBT := As.mk (fun (bx : Nat) (_ : bx = bx) => trivial)
  have t1 : decide ((n : Int) < 0) = false := by simp
  have t2 : decide ((n : Int) > (l.length : Int)) = false := by simp; omega
  have t3 : decide ((l.length : Int) < (n : Int)) = false := by simp; omega
  have t4 : decide (l.length < n) = false := by simp; omega
  clear h hr ok hP hrow hgrow hx1 hw ha
  go_enter Tryz.func19, Tryz.ntmps19
  go_wp2_with (first | (go_at_call 72; refine (HAR.out w1 HU1.out).mono ?_; rintro r w2 ⟨rfl, hu⟩; have HU2 := As.mk (HU1.out.trans hu (fun _ _ h => h)); obtain ⟨oc, of⟩ := Pure.olds HU2.out; have hz2 := HU2.out.size; clear hu) | (go_at_call 15; refine HCK.out.mono ?_; rintro r w1 ⟨rfl, hu⟩; have HU1 := As.mk hu; clear hu))
  obtain ⟨W3, hW3⟩ : ∃ W3, W3 = w2.alloc (.cells #[.string x0.name, .string x0.expr, .bool x0.leaf, .int .i64 x0.marks, .int .i64 x0.least, .int .i64 x0.most, .bool x0.lines, .int .i64 e0.k, .string e0.name, .slice A1 e0.l.length c1] 94) := ⟨_, rfl⟩
  have HU3 := As.mk (show Pure w W3 from hW3 ▸ HU2.out.alloc _)
  have hW3b : W3.heap[w2.heap.size]? = some (.cells #[.string x0.name, .string x0.expr, .bool x0.leaf, .int .i64 x0.marks, .int .i64 x0.least, .int .i64 x0.most, .bool x0.lines, .int .i64 e0.k, .string e0.name, .slice A1 e0.l.length c1] 94 (0, 0)) := hW3 ▸ heap_alloc_new w2 _
  have HW3B := As.mk hW3b
  have hz3 : w2.heap.size < W3.heap.size := (Array.getElem?_eq_some_iff.1 hW3b).1
  have HZ := As.mk (And.intro hz2 hz3)
  rw [← hW3]
  clear hW3 hW3b d0 d1 d2 d3 d4 d5 d6 d7 d8 d9
  obtain ⟨W5, hW5⟩ : ∃ W5, W5 = W3 := ⟨_, rfl⟩
  have HU5 := As.mk (show Pure w W5 from hW5 ▸ HU3.out)
  have HB5 := As.mk (show W5.heap[w2.heap.size]? = some (.cells #[.string x0.name, .string x0.expr, .bool x0.leaf, .int .i64 x0.marks, .int .i64 x0.least, .int .i64 x0.most, .bool x0.lines, .int .i64 e0.k, .string e0.name, .slice A1 e0.l.length c1] 94 (0, 0)) from hW5 ▸ HW3B.out)
  rw [← hW5]
  clear hW5
  go_wp2_with (go_at_call 76; refine (HKI.out W5 HU5.out).mono ?_; rintro r w4 ⟨v4, rfl, ho, hu⟩; have HO4 := As.mk ho; have HP4 := As.mk hu; have HU4 := As.mk (HU5.out.trans hu (fun _ _ h => h)); obtain ⟨A4, c4, rfl, hl4, hr4⟩ := Rp.own_slice ho; have HR4 := As.mk hr4; clear hu ho hr4; apply As.out)
  refine ⟨?_⟩
  have HM := As.mk (show (x0, e0) ∈ houseRules from HMEM.out)
  have HB4 := As.mk ((HP4.out.block w2.heap.size (Array.getElem?_eq_some_iff.1 HB5.out).1 (fun h => h)).trans HB5.out)
  have HCEL : As (∀ V, Pure w4 V → V.cell? ⟨w2.heap.size, 7, none⟩ = some (.int .i64 e0.k) ∧ V.cell? ⟨w2.heap.size, 8, none⟩ = some (.string e0.name) ∧ V.cell? ⟨w2.heap.size, 9, none⟩ = some (.slice A1 e0.l.length c1) ∧ V.cell? ⟨cb, 1, none⟩ = some (.slice AG houseGroups.length cG)) := ⟨fun V hu => by
    have hb := (hu.block w2.heap.size (Array.getElem?_eq_some_iff.1 HB4.out).1 (fun h => h)).trans HB4.out
    refine ⟨?_, ?_, ?_, ((HU4.out.trans hu (fun _ _ h => h)).cell hcb (fun h => h)).trans p1⟩ <;> (unfold World.cell?; simp only [hb]; rfl)⟩
  have HACC := As.mk (fun (V : World) (hu : Pure w V) (Aw : Option Addr) (cw : Nat) (wd : List Int) (Fw : Nat → Prop) (hw : intRS.row V Fw Aw wd) (hwl : wd.length ≤ 1048576) => acc_calls (c := c1) (d := cG) (cw := cw) (SchR.made house_ok HG.out hu HM.out (Rp.row_move (fun k hk hl => ⟨hl, Nat.lt_of_lt_of_le hl hu.size, hu.block k hl (fun h => h)⟩) HXR.out)) hw (by omega))
  have hkl4 := HKL.out
  generalize hks : kidsL l (-1 : Int) = ks at *
  have HKS := As.mk hks
  clear hks HKI HAR HCK HB5 HW3B HP4 HU3 HU2 HU1
  go_wp2
  go_loopg [13, 14, 61] ks.length (fun gg vv pv kv wr => ∃ (k : Nat) (put : Bool), k + gg = ks.length ∧ kv = .int .i64 k ∧ pv = .bool put ∧ As (∃ word : List Int, intRS.own 3 wr (fun q => w4.heap.size ≤ q) vv word ∧ word ++ mayGo l n t (ks.drop k) put = mayGo l n t ks false ∧ word.length ≤ 2 * k ∧ Pure w4 wr))
  case atStart => exact ⟨0, false, by omega, rfl, rfl, ⟨[], Rp.own_nil _ _ _ _, rfl, by simp, Upd.refl _ _⟩⟩
  case round =>
    obtain ⟨k, put, hk, rfl, rfl, HC⟩ := hrel
    obtain ⟨word, hown, hgo, hwl, hp⟩ := HC.out
    have HO := As.mk hown
    have HP := As.mk hp
    have HWL := As.mk hwl
    by_cases hlt : k < ks.length
    · obtain ⟨p, hp'⟩ : ∃ p, ks[k]? = some p := ⟨_, List.getElem?_eq_getElem hlt⟩
      obtain ⟨i, x, rfl, hx, _⟩ := HKD0.out p (List.mem_of_getElem? hp')
      obtain ⟨kb, ko, kcs, hA4, _, hkb, hkr, hkc⟩ := Rp.row_at (Rp.row_pure HR4.out HP.out) hp'
      have hkr2 : kcs = [.int .i64 (i : Int)] := hkr
      subst hkr2
      have f0 := hkc 0 _ rfl
      rw [show intRS.sz = 1 from rfl, Nat.mul_one, Nat.add_zero] at f0
      subst hA4
      obtain ⟨bx, ox, rfl, _, hbx0, x0', x1', x2', x3'⟩ := tok_at HR.out hx
      have HUW := As.mk (HU4.out.trans HP.out (fun _ _ h => h))
      replace x1' := (HUW.out.cell hbx0 (fun h => h)).trans x1'
      have hbx : bx < wr.heap.size := Nat.lt_of_lt_of_le hbx0 HUW.out.size
      have HBX := As.mk hbx0
      have hil : i < l.length := (List.getElem?_eq_some_iff.1 hx).1
      have htx : tyAt l (i : Int) = x.t := by unfold tyAt; rw [Int.toNat_natCast, hx]; rfl
      obtain ⟨g1, rfl⟩ : ∃ m, gk = m + 1 := ⟨gk - 1, by omega⟩
      rw [drop_cons hp', mayGo, htx] at hgo
      have HK := As.mk hk
      have hwk : IntKind.i64.wrap ((k : Int) + 1) = (k : Int) + 1 := IntWalk.i64_in _ (by omega)
      clear hown hp hk hp' hx hkc hkr htx HC hwl x0' x2' x3'
      by_cases hc : (n : Int) ≤ (i : Int) ∧ put = false
      · obtain ⟨hc1, rfl⟩ := hc
        rw [if_pos ⟨hc1, rfl⟩] at hgo
        have HE := As.mk (show (word ++ [t]) ++ [x.t] ++ mayGo l n t (ks.drop (k + 1)) true = mayGo l n t ks false by rw [← hgo]; simp)
        have u1 : decide ((i : Int) ≥ (n : Int)) = true := by simpa using hc1
        have u2 : decide ((n : Int) ≤ (i : Int)) = true := by simpa using hc1
        have u3 : decide (n ≤ i) = true := by simpa using hc1
        clear hgo hc1
        go_wp2_with (first | (at_builtin; refine Rp.own_append intRS HO1.out (x.t) [.int .i64 (x.t)] rfl (Fp := fun _ => False) (G := fun q => w4.heap.size ≤ q) (fun _ h => h.elim) (fun _ h _ => h) (fun q hq => by have := HP1.out.size; omega) rfl _ _ 83 _ 8 rfl Tryz.underlying83 int_infoS rfl (by decide) (by decide) rfl (by first | rfl | simp [Act.eval]) (by have := HWL.out; (try simp only [List.length_append, List.length_singleton]); omega) ?_; intro v2 w6 ho1 hu1; have HO2 := As.mk ho1; have HP2 := As.mk (HP1.out.trans hu1 (fun q hq h => by have := Rp.own_block_lt HO1.out q h; omega)); clear ho1 hu1) | (at_builtin; refine Rp.own_append intRS HO.out (t) [.int .i64 (t)] rfl (Fp := fun _ => False) (G := fun q => w4.heap.size ≤ q) (fun _ h => h.elim) (fun _ h _ => h) (fun q hq => by have := HP.out.size; omega) rfl _ _ 83 _ 8 rfl Tryz.underlying83 int_infoS rfl (by decide) (by decide) rfl (by first | rfl | simp [Act.eval]) (by have := HWL.out; omega) ?_; intro v1 w5 ho1 hu1; have HO1 := As.mk ho1; have HP1 := As.mk (HP.out.trans hu1 (fun q hq h => by have := Rp.own_block_lt HO.out q h; omega)); have y1 := (hu1.cell hbx (fun e => by have := (Rp.own_block_lt HO.out _ e).1; have := HU4.out.size; have := HBX.out; omega)).trans x1'; clear ho1 hu1))
        go_roundg g1
        case measure => omega
        case rel => exact ⟨k + 1, true, by have := HK.out; omega, by go_num, rfl, ⟨_, HO2.out, HE.out, by have := HWL.out; simp; omega, HP2.out⟩⟩
      · rw [if_neg hc] at hgo
        have HE := As.mk (show word ++ [x.t] ++ mayGo l n t (ks.drop (k + 1)) put = mayGo l n t ks false by rw [← hgo]; simp)
        have HC2 := As.mk hc
        clear hgo hc
        cases cb1 : decide ((n : Int) ≤ (i : Int)) <;> cases put
        all_goals first
          | (exfalso; exact HC2.out ⟨of_decide_eq_true cb1, rfl⟩)
          | skip
        all_goals
          have u1 : decide ((i : Int) ≥ (n : Int)) = decide ((n : Int) ≤ (i : Int)) := rfl
          rw [cb1] at u1
          have u3 : decide (n ≤ i) = decide ((n : Int) ≤ (i : Int)) := by simp
          rw [cb1] at u3
          go_wp2_with (at_builtin; refine Rp.own_append intRS HO.out (x.t) [.int .i64 (x.t)] rfl (Fp := fun _ => False) (G := fun q => w4.heap.size ≤ q) (fun _ h => h.elim) (fun _ h _ => h) (fun q hq => by have := HP.out.size; omega) rfl _ _ 83 _ 8 rfl Tryz.underlying83 int_infoS rfl (by decide) (by decide) rfl (by first | rfl | simp [Act.eval]) (by have := HWL.out; omega) ?_; intro v2 w6 ho1 hu1; have HO2 := As.mk ho1; have HP2 := As.mk (HP.out.trans hu1 (fun q hq h => by have := Rp.own_block_lt HO.out q h; omega)); clear ho1 hu1)
          go_roundg g1
          case measure => omega
          case rel => exact ⟨k + 1, _, by have := HK.out; omega, by go_num, rfl, ⟨_, HO2.out, HE.out, by have := HWL.out; simp; omega, HP2.out⟩⟩
    · obtain rfl : k = ks.length := by omega
      rw [List.drop_length, mayGo] at hgo
      have hwk : word.length ≤ 4096 := by omega
      clear hown hk hp HC hwl HKD0 HR4 HO4
      cases put
      · have HE := As.mk (show word ++ [t] = mayGo l n t ks false by rw [← hgo]; simp)
        clear hgo
        have HRES : As (∀ (V : World) (Aw : Option Addr) (cw : Nat) (Fw : Nat → Prop), Pure w V → intRS.row V Fw Aw (word ++ [t]) → Calls Tryz.prog 66 #[.agg #[.int .i64 e0.k, .string e0.name, .slice A1 e0.l.length c1], .slice AG houseGroups.length cG, .slice Aw (word.length + 1) cw] V fun r w' => r = .returned (.bool (regAccepts e0 houseGroups (mayGo l n t ks false))) ∧ Pure V w') := ⟨fun V Aw cw Fw hu hrw => by have h9 := HACC.out V hu Aw cw _ Fw hrw (by simp; omega); rw [List.length_append, List.length_singleton, HE.out] at h9; exact h9⟩
        clear HACC HE
        go_wp2_with (at_builtin; refine Rp.own_append intRS HO.out (t) [.int .i64 (t)] rfl (Fp := fun _ => False) (G := fun q => w4.heap.size ≤ q) (fun _ h => h.elim) (fun _ h _ => h) (fun q hq => by have := HP.out.size; omega) rfl _ _ 83 _ 8 rfl Tryz.underlying83 int_infoS rfl (by decide) (by decide) rfl (by first | rfl | simp [Act.eval]) (by have := HWL.out; omega) ?_; intro v2 w6 ho1 hu1; have HO2 := As.mk ho1; have HP2 := As.mk (HP.out.trans hu1 (fun q hq h => by have := Rp.own_block_lt HO.out q h; omega)); obtain ⟨A6, c6, rfl, hl6, hr6⟩ := Rp.own_slice ho1; have HR6 := As.mk hr6; clear ho1 hu1 hl6 hr6)
        try rw [List.length_append, List.length_singleton]
        have HCD := HCEL.out _ HP2.out
        have HRW := HR6
        refine wp_region_held_drew (S := (fun V => V.cell? ⟨w2.heap.size, 7, none⟩ = some (.int .i64 e0.k) ∧ V.cell? ⟨w2.heap.size, 8, none⟩ = some (.string e0.name) ∧ V.cell? ⟨w2.heap.size, 9, none⟩ = some (.slice A1 e0.l.length c1) ∧ V.cell? ⟨cb, 1, none⟩ = some (.slice AG houseGroups.length cG))) (by kernel_rfl) ?_ (fun hHeld => ?_)
        · first | exact HCEL.out _ HP9.out | exact HCEL.out _ HP2.out.drew
        refine zH 0 ?_
        refine zH 1 ?_
        refine zH 2 ?_
        refine zH 3 ?_
        (try simp only [Act.put, sA, sB, sC])
        refine zH 4 ?_
        refine zH 5 ?_
        refine zH 6 ?_
        refine wpAnyH_ready (rs := [7]) (by kernel_rfl) (by simp) (AllReadyH.cons (o := { dst := (some 98), op := (Go.Op.call { callee := (Go.Callee.value (Go.Operand.func 66)), args := #[(Go.Operand.tmp 92), (Go.Operand.tmp 96), (Go.Operand.tmp 97)], argTypes := #[92, 86, 83] }), type := 4, pos := "schema.go:185", after := #[{ on := 1, ground := Go.Ground.data }, { on := 5, ground := Go.Ground.data }, { on := 6, ground := Go.Ground.data }], guard := none }) rfl (fun K hK => ?_) AllReadyH.nil)
        go_simp
        (go_at_call 66; refine (HRES.out _ _ _ _ (HU4.out.trans HP2.out.drew (fun _ _ h => h)) (Rp.row_pure HRW.out ((Upd.refl (fun _ => False) _).drew))).mono ?_; rintro r w9 ⟨rfl, hu⟩; have HP9 := As.mk (HP2.out.drew.trans hu (fun _ _ h => h)); clear hu)
        refine hK.out _ _ (by first | exact HCEL.out _ HP9.out | exact HCEL.out _ HP2.out.drew) (fun hHeld => ?_)
        clear hK K
        (try simp only [Act.put, sA, sB, sC])
        refine zH 8 ?_
        refine wpAnyH_done (by kernel_rfl) ?_ _
        go_wp2
        go_ret
        exact ⟨by rw [HKS.out]; rfl, HU4.out.trans HP9.out (fun _ _ h => h)⟩
      · have HE := As.mk (show word = mayGo l n t ks false by rw [← hgo]; simp)
        clear hgo
        obtain ⟨A6, c6, rfl, hl6, hr6⟩ := Rp.own_slice HO.out
        have HRW := As.mk hr6
        have HRES : As (∀ (V : World) (Aw : Option Addr) (cw : Nat) (Fw : Nat → Prop), Pure w V → intRS.row V Fw Aw word → Calls Tryz.prog 66 #[.agg #[.int .i64 e0.k, .string e0.name, .slice A1 e0.l.length c1], .slice AG houseGroups.length cG, .slice Aw word.length cw] V fun r w' => r = .returned (.bool (regAccepts e0 houseGroups (mayGo l n t ks false))) ∧ Pure V w') := ⟨fun V Aw cw Fw hu hrw => by have h9 := HACC.out V hu Aw cw _ Fw hrw (by omega); rw [← HE.out]; exact h9⟩
        clear HACC HE hr6
        go_wp2
        refine wp_region_held_drew (S := (fun V => V.cell? ⟨w2.heap.size, 7, none⟩ = some (.int .i64 e0.k) ∧ V.cell? ⟨w2.heap.size, 8, none⟩ = some (.string e0.name) ∧ V.cell? ⟨w2.heap.size, 9, none⟩ = some (.slice A1 e0.l.length c1) ∧ V.cell? ⟨cb, 1, none⟩ = some (.slice AG houseGroups.length cG))) (by kernel_rfl) ?_ (fun hHeld => ?_)
        · first | exact HCEL.out _ HP9.out | exact HCEL.out _ HP.out.drew
        refine zH 0 ?_
        refine zH 1 ?_
        refine zH 2 ?_
        (try simp only [Act.put, sA, sB, sC])
        refine zH 3 ?_
        refine zH 4 ?_
        refine zH 5 ?_
        refine zH 6 ?_
        (try simp only [Act.put, sA, sB, sC])
        refine wpAnyH_ready (rs := [7]) (by kernel_rfl) (by simp) (AllReadyH.cons (o := { dst := (some 98), op := (Go.Op.call { callee := (Go.Callee.value (Go.Operand.func 66)), args := #[(Go.Operand.tmp 92), (Go.Operand.tmp 96), (Go.Operand.tmp 97)], argTypes := #[92, 86, 83] }), type := 4, pos := "schema.go:185", after := #[{ on := 1, ground := Go.Ground.data }, { on := 5, ground := Go.Ground.data }, { on := 6, ground := Go.Ground.data }], guard := none }) rfl (fun K hK => ?_) AllReadyH.nil)
        go_simp
        (go_at_call 66; refine (HRES.out _ _ _ _ (HU4.out.trans HP.out.drew (fun _ _ h => h)) (Rp.row_pure HRW.out ((Upd.refl (fun _ => False) _).drew))).mono ?_; rintro r w9 ⟨rfl, hu⟩; have HP9 := As.mk (HP.out.drew.trans hu (fun _ _ h => h)); clear hu)
        refine hK.out _ _ (by first | exact HCEL.out _ HP9.out | exact HCEL.out _ HP.out.drew) (fun hHeld => ?_)
        clear hK K
        (try simp only [Act.put, sA, sB, sC])
        refine zH 8 ?_
        refine wpAnyH_done (by kernel_rfl) ?_ _
        go_wp2
        go_ret
        exact ⟨by rw [HKS.out]; rfl, HU4.out.trans HP9.out (fun _ _ h => h)⟩
set_option maxRecDepth 100000 in
set_option maxHeartbeats 4000000 in
theorem May_in {w : World} {cb : Nat} {F : Nat → Prop} {A : Option Addr} {c : Nat} {l : List Tok} {n : Nat} {t : Int} {R : Spec × Ex} (h : SchR w cb houseRules houseGroups) (hr : tokR.row w F A l) (hb : l.length ≤ 2048) (hlc : l.length ≤ c) (ok : (houseCheck l).2 = 0) (hn : n ≤ l.length) (hP : AtP l n R) (hw : ∃ (j yt : Nat) (y : Tok), aroundL l n = j ∧ l[j]? = some y ∧ y.k = 1 ∧ y.t = yt ∧ 1 ≤ yt ∧ houseRules[yt]? = some R) :
    Calls Tryz.prog 19 #[.pointer (some ⟨cb, 0, none⟩), .slice A l.length c, .int .i64 n, .int .i64 t] w fun r w' => r = .returned (.bool (regAccepts R.2 houseGroups (mayGo l n t (kidsL l (aroundL l n)) false))) ∧ Pure w w' := by
  have HS := As.mk h
  have HR := As.mk hr
  have HKD0 := As.mk hP.kids
  have HCK := As.mk (house_check (c := c) h hr (by omega))
  rw [ok] at HCK
  have HAR := As.mk (fun (W : World) (hu : Pure w W) => around_calls (c := c) (at' := (n : Int)) (Rp.row_pure hr hu) (by omega) hlc)
  obtain ⟨j, yt, y, ha, hy, hy1, hyt, hyt1, hyR⟩ := hw
  have HKI := As.mk (fun (W : World) (hu : Pure w W) => Kids_in (c := c) (Rp.row_pure hr hu) (by omega) hy hy1)
  obtain ⟨xR, eR⟩ := R
  obtain ⟨z0, hy0⟩ : ∃ z0, houseRules[0]? = some z0 := ⟨_, List.getElem?_eq_getElem (by rw [house_len]; decide)⟩
  obtain ⟨x0, e0⟩ := z0
  rw [ha] at HAR HKD0
  rw [ha]
  have HKL := As.mk (show (kidsL l (j : Int)).length ≤ 2048 by have := kidsL_len l (j : Int); omega)
  obtain ⟨b0, o0, cL, AG, cG, p0, p1, hcb, hle, hb0, hrow, hgrow⟩ := rule_row h
  have HG := As.mk hgrow
  obtain ⟨b0', o0', A1, c1, hA, _, _, d0, d1, d2, d3, d4, d5, d6, d7, d8, d9, hl1, hx1⟩ := rule_at hrow hy0
  simp only [Option.some.injEq, Addr.mk.injEq] at hA
  obtain ⟨rfl, rfl, _⟩ := hA
  simp only [Nat.zero_mul, Nat.add_zero] at d0 d1 d2 d3 d4 d5 d6 d7 d8 d9
  obtain ⟨b0', o0', A2, c2, hA, _, _, g0, g1, g2, g3, g4, g5, g6, g7, g8, g9, hl2, hx2⟩ := rule_at hrow hyR
  simp only [Option.some.injEq, Addr.mk.injEq] at hA
  obtain ⟨rfl, rfl, _⟩ := hA
  have hytl : yt < 8 := by have := (List.getElem?_eq_some_iff.1 hyR).1; rw [house_len] at this; exact this
  have hyti : (yt : Int) < 8 := by omega
  obtain ⟨bt, ot, rfl, _, hbt, q0, q1, q2, q3⟩ := tok_at hr hy
  rw [hyt] at q1
  have hjl : j < l.length := (List.getElem?_eq_some_iff.1 hy).1
  have HMEM := As.mk (List.mem_of_getElem? hyR)
  have HXR := As.mk hx2
  have HBT := As.mk (fun (bx : Nat) (_ : bx = bx) => trivial)
  have t1 : decide ((n : Int) < 0) = false := by simp
  have t2 : decide ((n : Int) > (l.length : Int)) = false := by simp; omega
  have t3 : decide ((l.length : Int) < (n : Int)) = false := by simp; omega
  have t4 : decide (l.length < n) = false := by simp; omega
  clear h hr ok hP hrow hgrow hx1 ha hy hy1 hyt hyR hx2 hy0
  go_enter Tryz.func19, Tryz.ntmps19
  go_wp2_with (first | (go_at_call 72; refine (HAR.out w1 HU1.out).mono ?_; rintro r w2 ⟨rfl, hu⟩; have HU2 := As.mk (HU1.out.trans hu (fun _ _ h => h)); obtain ⟨oc, of⟩ := Pure.olds HU2.out; have hz2 := HU2.out.size; clear hu) | (go_at_call 15; refine HCK.out.mono ?_; rintro r w1 ⟨rfl, hu⟩; have HU1 := As.mk hu; clear hu))
  obtain ⟨W3, hW3⟩ : ∃ W3, W3 = w2.alloc (.cells #[.string x0.name, .string x0.expr, .bool x0.leaf, .int .i64 x0.marks, .int .i64 x0.least, .int .i64 x0.most, .bool x0.lines, .int .i64 e0.k, .string e0.name, .slice A1 e0.l.length c1] 94) := ⟨_, rfl⟩
  have HU3 := As.mk (show Pure w W3 from hW3 ▸ HU2.out.alloc _)
  have hW3b : W3.heap[w2.heap.size]? = some (.cells #[.string x0.name, .string x0.expr, .bool x0.leaf, .int .i64 x0.marks, .int .i64 x0.least, .int .i64 x0.most, .bool x0.lines, .int .i64 e0.k, .string e0.name, .slice A1 e0.l.length c1] 94 (0, 0)) := hW3 ▸ heap_alloc_new w2 _
  have HW3B := As.mk hW3b
  have hz3 : w2.heap.size < W3.heap.size := (Array.getElem?_eq_some_iff.1 hW3b).1
  have HZ := As.mk (And.intro hz2 hz3)
  have HSK7 : As (∀ V, Pure W3 V → V.cell? ⟨cb, 0, none⟩ = some (.slice (some ⟨b0, o0, none⟩) 8 cL) ∧ V.cell? ⟨bt, ot + j * 4 + 1, none⟩ = some (.int .i64 (yt : Int)) ∧ V.cell? ⟨b0, o0 + yt * 10, none⟩ = some (.string xR.name) ∧ V.cell? ⟨b0, o0 + yt * 10 + 1, none⟩ = some (.string xR.expr) ∧ V.cell? ⟨b0, o0 + yt * 10 + 2, none⟩ = some (.bool xR.leaf) ∧ V.cell? ⟨b0, o0 + yt * 10 + 3, none⟩ = some (.int .i64 xR.marks) ∧ V.cell? ⟨b0, o0 + yt * 10 + 4, none⟩ = some (.int .i64 xR.least) ∧ V.cell? ⟨b0, o0 + yt * 10 + 5, none⟩ = some (.int .i64 xR.most) ∧ V.cell? ⟨b0, o0 + yt * 10 + 6, none⟩ = some (.bool xR.lines) ∧ V.cell? ⟨b0, o0 + yt * 10 + 7, none⟩ = some (.int .i64 eR.k) ∧ V.cell? ⟨b0, o0 + yt * 10 + 8, none⟩ = some (.string eR.name) ∧ V.cell? ⟨b0, o0 + yt * 10 + 9, none⟩ = some (.slice A2 eR.l.length c2) ∧ V.frozen? ⟨w2.heap.size, 0, none⟩ = false ∧ V.frozen? ⟨w2.heap.size, 1, none⟩ = false ∧ V.frozen? ⟨w2.heap.size, 2, none⟩ = false ∧ V.frozen? ⟨w2.heap.size, 3, none⟩ = false ∧ V.frozen? ⟨w2.heap.size, 4, none⟩ = false ∧ V.frozen? ⟨w2.heap.size, 5, none⟩ = false ∧ V.frozen? ⟨w2.heap.size, 6, none⟩ = false ∧ V.frozen? ⟨w2.heap.size, 7, none⟩ = false ∧ V.frozen? ⟨w2.heap.size, 8, none⟩ = false ∧ V.frozen? ⟨w2.heap.size, 9, none⟩ = false) := ⟨fun V hu => by
    have hu2 := HU3.out.trans hu (fun _ _ h => h)
    have hf : ∀ i, V.frozen? ⟨w2.heap.size, i, none⟩ = false := fun i => (hu.frozen hz3 (fun h => h)).trans (by simp [World.frozen?, hW3b])
    exact ⟨(hu2.cell hcb (fun h => h)).trans p0, (hu2.cell hbt (fun h => h)).trans q1, (hu2.cell hb0 (fun h => h)).trans g0, (hu2.cell hb0 (fun h => h)).trans g1, (hu2.cell hb0 (fun h => h)).trans g2, (hu2.cell hb0 (fun h => h)).trans g3, (hu2.cell hb0 (fun h => h)).trans g4, (hu2.cell hb0 (fun h => h)).trans g5, (hu2.cell hb0 (fun h => h)).trans g6, (hu2.cell hb0 (fun h => h)).trans g7, (hu2.cell hb0 (fun h => h)).trans g8, (hu2.cell hb0 (fun h => h)).trans g9, hf 0, hf 1, hf 2, hf 3, hf 4, hf 5, hf 6, hf 7, hf 8, hf 9⟩⟩
  have HW3D := As.mk (show W3.drew.heap[w2.heap.size]? = some (.cells #[.string x0.name, .string x0.expr, .bool x0.leaf, .int .i64 x0.marks, .int .i64 x0.least, .int .i64 x0.most, .bool x0.lines, .int .i64 e0.k, .string e0.name, .slice A1 e0.l.length c1] 94 (0, 0)) from hW3b)
  rw [← hW3]
  clear hW3 hW3b g0 g1 g2 g3 g4 g5 g6 g7 g8 g9 d0 d1 d2 d3 d4 d5 d6 d7 d8 d9
  refine wp_region_T (P := Tryz.prog) (fun V => V.cell? ⟨cb, 0, none⟩ = some (.slice (some ⟨b0, o0, none⟩) 8 cL) ∧ V.cell? ⟨bt, ot + j * 4 + 1, none⟩ = some (.int .i64 (yt : Int)) ∧ V.cell? ⟨b0, o0 + yt * 10, none⟩ = some (.string xR.name) ∧ V.cell? ⟨b0, o0 + yt * 10 + 1, none⟩ = some (.string xR.expr) ∧ V.cell? ⟨b0, o0 + yt * 10 + 2, none⟩ = some (.bool xR.leaf) ∧ V.cell? ⟨b0, o0 + yt * 10 + 3, none⟩ = some (.int .i64 xR.marks) ∧ V.cell? ⟨b0, o0 + yt * 10 + 4, none⟩ = some (.int .i64 xR.least) ∧ V.cell? ⟨b0, o0 + yt * 10 + 5, none⟩ = some (.int .i64 xR.most) ∧ V.cell? ⟨b0, o0 + yt * 10 + 6, none⟩ = some (.bool xR.lines) ∧ V.cell? ⟨b0, o0 + yt * 10 + 7, none⟩ = some (.int .i64 eR.k) ∧ V.cell? ⟨b0, o0 + yt * 10 + 8, none⟩ = some (.string eR.name) ∧ V.cell? ⟨b0, o0 + yt * 10 + 9, none⟩ = some (.slice A2 eR.l.length c2) ∧ V.frozen? ⟨w2.heap.size, 0, none⟩ = false ∧ V.frozen? ⟨w2.heap.size, 1, none⟩ = false ∧ V.frozen? ⟨w2.heap.size, 2, none⟩ = false ∧ V.frozen? ⟨w2.heap.size, 3, none⟩ = false ∧ V.frozen? ⟨w2.heap.size, 4, none⟩ = false ∧ V.frozen? ⟨w2.heap.size, 5, none⟩ = false ∧ V.frozen? ⟨w2.heap.size, 6, none⟩ = false ∧ V.frozen? ⟨w2.heap.size, 7, none⟩ = false ∧ V.frozen? ⟨w2.heap.size, 8, none⟩ = false ∧ V.frozen? ⟨w2.heap.size, 9, none⟩ = false) 11 (by kernel_rfl) ?_ (fun hHeld => ?_)
  · exact HSK7.out _ ((Upd.refl _ _).drew)
  refine zT 0 ?_
  refine zT 1 ?_
  (try simp only [Act.put, sA, sB, sC])
  refine zT 2 ?_
  refine zT 3 ?_
  refine zT 4 ?_
  refine zT 5 ?_
  (try simp only [Act.put, sA, sB, sC])
  refine zT 6 ?_
  refine zT 7 ?_
  refine zT 8 ?_
  refine zT 9 ?_
  (try simp only [Act.put, sA, sB, sC])
  refine zT 10 ?_
  refine oT 11 (fun K hK => ?_)
  refine step_store_row rfl _ _ _ rfl w2.heap.size #[.string xR.name, .string xR.expr, .bool xR.leaf, .int .i64 xR.marks, .int .i64 xR.least, .int .i64 xR.most, .bool xR.lines, .int .i64 eR.k, .string eR.name, .slice A2 eR.l.length c2] (by rfl) (by rfl) 94 _ HW3D.out (by kernel_rfl) (by rfl) (by first | kernel_rfl | simp [Value.oneCell']) ?_
  refine hK.out _ _ (fun h => absurd rfl h) (fun hHeld => ?_)
  clear hK K
  (try simp only [Act.put, sA, sB, sC])
  refine wpAnyT_done (by kernel_rfl) ?_ _
  obtain ⟨W5, hW5⟩ : ∃ W5, W5 = W3.drew.setRow w2.heap.size #[.string xR.name, .string xR.expr, .bool xR.leaf, .int .i64 xR.marks, .int .i64 xR.least, .int .i64 xR.most, .bool xR.lines, .int .i64 eR.k, .string eR.name, .slice A2 eR.l.length c2] := ⟨_, rfl⟩
  have HU5 := As.mk (show Pure w W5 from hW5 ▸ HU3.out.drew.trans (setRow_upd W3.drew w2.heap.size _) (fun q hq h => by have := HZ.out.1; omega))
  have HB5 := As.mk (show W5.heap[w2.heap.size]? = some (.cells #[.string xR.name, .string xR.expr, .bool xR.leaf, .int .i64 xR.marks, .int .i64 xR.least, .int .i64 xR.most, .bool xR.lines, .int .i64 eR.k, .string eR.name, .slice A2 eR.l.length c2] 94 (0, 0)) from hW5 ▸ setRow_heap W3.drew w2.heap.size _ _ _ _ HW3D.out)
  rw [← hW5]
  clear hW5
  go_wp2_with (go_at_call 76; refine (HKI.out W5 HU5.out).mono ?_; rintro r w4 ⟨v4, rfl, ho, hu⟩; have HO4 := As.mk ho; have HP4 := As.mk hu; have HU4 := As.mk (HU5.out.trans hu (fun _ _ h => h)); obtain ⟨A4, c4, rfl, hl4, hr4⟩ := Rp.own_slice ho; have HR4 := As.mk hr4; clear hu ho hr4; apply As.out)
  refine ⟨?_⟩
  have HM := As.mk (show (xR, eR) ∈ houseRules from HMEM.out)
  have HB4 := As.mk ((HP4.out.block w2.heap.size (Array.getElem?_eq_some_iff.1 HB5.out).1 (fun h => h)).trans HB5.out)
  have HCEL : As (∀ V, Pure w4 V → V.cell? ⟨w2.heap.size, 7, none⟩ = some (.int .i64 eR.k) ∧ V.cell? ⟨w2.heap.size, 8, none⟩ = some (.string eR.name) ∧ V.cell? ⟨w2.heap.size, 9, none⟩ = some (.slice A2 eR.l.length c2) ∧ V.cell? ⟨cb, 1, none⟩ = some (.slice AG houseGroups.length cG)) := ⟨fun V hu => by
    have hb := (hu.block w2.heap.size (Array.getElem?_eq_some_iff.1 HB4.out).1 (fun h => h)).trans HB4.out
    refine ⟨?_, ?_, ?_, ((HU4.out.trans hu (fun _ _ h => h)).cell hcb (fun h => h)).trans p1⟩ <;> (unfold World.cell?; simp only [hb]; rfl)⟩
  have HACC := As.mk (fun (V : World) (hu : Pure w V) (Aw : Option Addr) (cw : Nat) (wd : List Int) (Fw : Nat → Prop) (hw : intRS.row V Fw Aw wd) (hwl : wd.length ≤ 1048576) => acc_calls (c := c2) (d := cG) (cw := cw) (SchR.made house_ok HG.out hu HM.out (Rp.row_move (fun k hk hl => ⟨hl, Nat.lt_of_lt_of_le hl hu.size, hu.block k hl (fun h => h)⟩) HXR.out)) hw (by omega))
  have hkl4 := HKL.out
  generalize hks : kidsL l (j : Int) = ks at *
  have HKS := As.mk hks
  clear hks HKI HAR HCK HB5 HW3B HP4 HU3 HU2 HU1
  go_wp2
  go_loopg [13, 14, 61] ks.length (fun gg vv pv kv wr => ∃ (k : Nat) (put : Bool), k + gg = ks.length ∧ kv = .int .i64 k ∧ pv = .bool put ∧ As (∃ word : List Int, intRS.own 3 wr (fun q => w4.heap.size ≤ q) vv word ∧ word ++ mayGo l n t (ks.drop k) put = mayGo l n t ks false ∧ word.length ≤ 2 * k ∧ Pure w4 wr))
  case atStart => exact ⟨0, false, by omega, rfl, rfl, ⟨[], Rp.own_nil _ _ _ _, rfl, by simp, Upd.refl _ _⟩⟩
  case round =>
    obtain ⟨k, put, hk, rfl, rfl, HC⟩ := hrel
    obtain ⟨word, hown, hgo, hwl, hp⟩ := HC.out
    have HO := As.mk hown
    have HP := As.mk hp
    have HWL := As.mk hwl
    by_cases hlt : k < ks.length
    · obtain ⟨p, hp'⟩ : ∃ p, ks[k]? = some p := ⟨_, List.getElem?_eq_getElem hlt⟩
      obtain ⟨i, x, rfl, hx, _⟩ := HKD0.out p (List.mem_of_getElem? hp')
      obtain ⟨kb, ko, kcs, hA4, _, hkb, hkr, hkc⟩ := Rp.row_at (Rp.row_pure HR4.out HP.out) hp'
      have hkr2 : kcs = [.int .i64 (i : Int)] := hkr
      subst hkr2
      have f0 := hkc 0 _ rfl
      rw [show intRS.sz = 1 from rfl, Nat.mul_one, Nat.add_zero] at f0
      subst hA4
      obtain ⟨bx, ox, hAx, _, hbx0, x0', x1', x2', x3'⟩ := tok_at HR.out hx
      simp only [Option.some.injEq, Addr.mk.injEq] at hAx
      obtain ⟨rfl, rfl, _⟩ := hAx
      have HUW := As.mk (HU4.out.trans HP.out (fun _ _ h => h))
      replace x1' := (HUW.out.cell hbx0 (fun h => h)).trans x1'
      have hbx : bt < wr.heap.size := Nat.lt_of_lt_of_le hbx0 HUW.out.size
      have HBX := As.mk hbx0
      have hil : i < l.length := (List.getElem?_eq_some_iff.1 hx).1
      have htx : tyAt l (i : Int) = x.t := by unfold tyAt; rw [Int.toNat_natCast, hx]; rfl
      obtain ⟨g1, rfl⟩ : ∃ m, gk = m + 1 := ⟨gk - 1, by omega⟩
      rw [drop_cons hp', mayGo, htx] at hgo
      have HK := As.mk hk
      have hwk : IntKind.i64.wrap ((k : Int) + 1) = (k : Int) + 1 := IntWalk.i64_in _ (by omega)
      clear hown hp hk hp' hx hkc hkr htx HC hwl x0' x2' x3'
      by_cases hc : (n : Int) ≤ (i : Int) ∧ put = false
      · obtain ⟨hc1, rfl⟩ := hc
        rw [if_pos ⟨hc1, rfl⟩] at hgo
        have HE := As.mk (show (word ++ [t]) ++ [x.t] ++ mayGo l n t (ks.drop (k + 1)) true = mayGo l n t ks false by rw [← hgo]; simp)
        have u1 : decide ((i : Int) ≥ (n : Int)) = true := by simpa using hc1
        have u2 : decide ((n : Int) ≤ (i : Int)) = true := by simpa using hc1
        have u3 : decide (n ≤ i) = true := by simpa using hc1
        clear hgo hc1
        go_wp2_with (first | (at_builtin; refine Rp.own_append intRS HO1.out (x.t) [.int .i64 (x.t)] rfl (Fp := fun _ => False) (G := fun q => w4.heap.size ≤ q) (fun _ h => h.elim) (fun _ h _ => h) (fun q hq => by have := HP1.out.size; omega) rfl _ _ 83 _ 8 rfl Tryz.underlying83 int_infoS rfl (by decide) (by decide) rfl (by first | rfl | simp [Act.eval]) (by have := HWL.out; (try simp only [List.length_append, List.length_singleton]); omega) ?_; intro v2 w6 ho1 hu1; have HO2 := As.mk ho1; have HP2 := As.mk (HP1.out.trans hu1 (fun q hq h => by have := Rp.own_block_lt HO1.out q h; omega)); clear ho1 hu1) | (at_builtin; refine Rp.own_append intRS HO.out (t) [.int .i64 (t)] rfl (Fp := fun _ => False) (G := fun q => w4.heap.size ≤ q) (fun _ h => h.elim) (fun _ h _ => h) (fun q hq => by have := HP.out.size; omega) rfl _ _ 83 _ 8 rfl Tryz.underlying83 int_infoS rfl (by decide) (by decide) rfl (by first | rfl | simp [Act.eval]) (by have := HWL.out; omega) ?_; intro v1 w5 ho1 hu1; have HO1 := As.mk ho1; have HP1 := As.mk (HP.out.trans hu1 (fun q hq h => by have := Rp.own_block_lt HO.out q h; omega)); have y1 := (hu1.cell hbx (fun e => by have := (Rp.own_block_lt HO.out _ e).1; have := HU4.out.size; have := HBX.out; omega)).trans x1'; clear ho1 hu1))
        go_roundg g1
        case measure => omega
        case rel => exact ⟨k + 1, true, by have := HK.out; omega, by go_num, rfl, ⟨_, HO2.out, HE.out, by have := HWL.out; simp; omega, HP2.out⟩⟩
      · rw [if_neg hc] at hgo
        have HE := As.mk (show word ++ [x.t] ++ mayGo l n t (ks.drop (k + 1)) put = mayGo l n t ks false by rw [← hgo]; simp)
        have HC2 := As.mk hc
        clear hgo hc
        cases cb1 : decide ((n : Int) ≤ (i : Int)) <;> cases put
        all_goals first
          | (exfalso; exact HC2.out ⟨of_decide_eq_true cb1, rfl⟩)
          | skip
        all_goals
          have u1 : decide ((i : Int) ≥ (n : Int)) = decide ((n : Int) ≤ (i : Int)) := rfl
          rw [cb1] at u1
          have u3 : decide (n ≤ i) = decide ((n : Int) ≤ (i : Int)) := by simp
          rw [cb1] at u3
          go_wp2_with (at_builtin; refine Rp.own_append intRS HO.out (x.t) [.int .i64 (x.t)] rfl (Fp := fun _ => False) (G := fun q => w4.heap.size ≤ q) (fun _ h => h.elim) (fun _ h _ => h) (fun q hq => by have := HP.out.size; omega) rfl _ _ 83 _ 8 rfl Tryz.underlying83 int_infoS rfl (by decide) (by decide) rfl (by first | rfl | simp [Act.eval]) (by have := HWL.out; omega) ?_; intro v2 w6 ho1 hu1; have HO2 := As.mk ho1; have HP2 := As.mk (HP.out.trans hu1 (fun q hq h => by have := Rp.own_block_lt HO.out q h; omega)); clear ho1 hu1)
          go_roundg g1
          case measure => omega
          case rel => exact ⟨k + 1, _, by have := HK.out; omega, by go_num, rfl, ⟨_, HO2.out, HE.out, by have := HWL.out; simp; omega, HP2.out⟩⟩
    · obtain rfl : k = ks.length := by omega
      rw [List.drop_length, mayGo] at hgo
      have hwk : word.length ≤ 4096 := by omega
      clear hown hk hp HC hwl HKD0 HR4 HO4
      cases put
      · have HE := As.mk (show word ++ [t] = mayGo l n t ks false by rw [← hgo]; simp)
        clear hgo
        have HRES : As (∀ (V : World) (Aw : Option Addr) (cw : Nat) (Fw : Nat → Prop), Pure w V → intRS.row V Fw Aw (word ++ [t]) → Calls Tryz.prog 66 #[.agg #[.int .i64 eR.k, .string eR.name, .slice A2 eR.l.length c2], .slice AG houseGroups.length cG, .slice Aw (word.length + 1) cw] V fun r w' => r = .returned (.bool (regAccepts eR houseGroups (mayGo l n t ks false))) ∧ Pure V w') := ⟨fun V Aw cw Fw hu hrw => by have h9 := HACC.out V hu Aw cw _ Fw hrw (by simp; omega); rw [List.length_append, List.length_singleton, HE.out] at h9; exact h9⟩
        clear HACC HE
        go_wp2_with (at_builtin; refine Rp.own_append intRS HO.out (t) [.int .i64 (t)] rfl (Fp := fun _ => False) (G := fun q => w4.heap.size ≤ q) (fun _ h => h.elim) (fun _ h _ => h) (fun q hq => by have := HP.out.size; omega) rfl _ _ 83 _ 8 rfl Tryz.underlying83 int_infoS rfl (by decide) (by decide) rfl (by first | rfl | simp [Act.eval]) (by have := HWL.out; omega) ?_; intro v2 w6 ho1 hu1; have HO2 := As.mk ho1; have HP2 := As.mk (HP.out.trans hu1 (fun q hq h => by have := Rp.own_block_lt HO.out q h; omega)); obtain ⟨A6, c6, rfl, hl6, hr6⟩ := Rp.own_slice ho1; have HR6 := As.mk hr6; clear ho1 hu1 hl6 hr6)
        try rw [List.length_append, List.length_singleton]
        have HCD := HCEL.out _ HP2.out
        have HRW := HR6
        refine wp_region_held_drew (S := (fun V => V.cell? ⟨w2.heap.size, 7, none⟩ = some (.int .i64 eR.k) ∧ V.cell? ⟨w2.heap.size, 8, none⟩ = some (.string eR.name) ∧ V.cell? ⟨w2.heap.size, 9, none⟩ = some (.slice A2 eR.l.length c2) ∧ V.cell? ⟨cb, 1, none⟩ = some (.slice AG houseGroups.length cG))) (by kernel_rfl) ?_ (fun hHeld => ?_)
        · first | exact HCEL.out _ HP9.out | exact HCEL.out _ HP2.out.drew
        refine zH 0 ?_
        refine zH 1 ?_
        (try simp only [Act.put, sA, sB, sC])
        refine zH 2 ?_
        refine zH 3 ?_
        refine zH 4 ?_
        refine zH 5 ?_
        (try simp only [Act.put, sA, sB, sC])
        refine zH 6 ?_
        refine wpAnyH_ready (rs := [7]) (by kernel_rfl) (by simp) (AllReadyH.cons (o := { dst := (some 98), op := (Go.Op.call { callee := (Go.Callee.value (Go.Operand.func 66)), args := #[(Go.Operand.tmp 92), (Go.Operand.tmp 96), (Go.Operand.tmp 97)], argTypes := #[92, 86, 83] }), type := 4, pos := "schema.go:185", after := #[{ on := 1, ground := Go.Ground.data }, { on := 5, ground := Go.Ground.data }, { on := 6, ground := Go.Ground.data }], guard := none }) rfl (fun K hK => ?_) AllReadyH.nil)
        go_simp
        (go_at_call 66; refine (HRES.out _ _ _ _ (HU4.out.trans HP2.out.drew (fun _ _ h => h)) (Rp.row_pure HRW.out ((Upd.refl (fun _ => False) _).drew))).mono ?_; rintro r w9 ⟨rfl, hu⟩; have HP9 := As.mk (HP2.out.drew.trans hu (fun _ _ h => h)); clear hu)
        refine hK.out _ _ (by first | exact HCEL.out _ HP9.out | exact HCEL.out _ HP2.out.drew) (fun hHeld => ?_)
        clear hK K
        (try simp only [Act.put, sA, sB, sC])
        refine zH 8 ?_
        refine wpAnyH_done (by kernel_rfl) ?_ _
        go_wp2
        go_ret
        exact ⟨by rw [HKS.out]; rfl, HU4.out.trans HP9.out (fun _ _ h => h)⟩
      · have HE := As.mk (show word = mayGo l n t ks false by rw [← hgo]; simp)
        clear hgo
        obtain ⟨A6, c6, rfl, hl6, hr6⟩ := Rp.own_slice HO.out
        have HRW := As.mk hr6
        have HRES : As (∀ (V : World) (Aw : Option Addr) (cw : Nat) (Fw : Nat → Prop), Pure w V → intRS.row V Fw Aw word → Calls Tryz.prog 66 #[.agg #[.int .i64 eR.k, .string eR.name, .slice A2 eR.l.length c2], .slice AG houseGroups.length cG, .slice Aw word.length cw] V fun r w' => r = .returned (.bool (regAccepts eR houseGroups (mayGo l n t ks false))) ∧ Pure V w') := ⟨fun V Aw cw Fw hu hrw => by have h9 := HACC.out V hu Aw cw _ Fw hrw (by omega); rw [← HE.out]; exact h9⟩
        clear HACC HE hr6
        go_wp2
        refine wp_region_held_drew (S := (fun V => V.cell? ⟨w2.heap.size, 7, none⟩ = some (.int .i64 eR.k) ∧ V.cell? ⟨w2.heap.size, 8, none⟩ = some (.string eR.name) ∧ V.cell? ⟨w2.heap.size, 9, none⟩ = some (.slice A2 eR.l.length c2) ∧ V.cell? ⟨cb, 1, none⟩ = some (.slice AG houseGroups.length cG))) (by kernel_rfl) ?_ (fun hHeld => ?_)
        · first | exact HCEL.out _ HP9.out | exact HCEL.out _ HP.out.drew
        refine zH 0 ?_
        (try simp only [Act.put, sA, sB, sC])
        refine zH 1 ?_
        refine zH 2 ?_
        refine zH 3 ?_
        refine zH 4 ?_
        (try simp only [Act.put, sA, sB, sC])
        refine zH 5 ?_
        refine zH 6 ?_
        refine wpAnyH_ready (rs := [7]) (by kernel_rfl) (by simp) (AllReadyH.cons (o := { dst := (some 98), op := (Go.Op.call { callee := (Go.Callee.value (Go.Operand.func 66)), args := #[(Go.Operand.tmp 92), (Go.Operand.tmp 96), (Go.Operand.tmp 97)], argTypes := #[92, 86, 83] }), type := 4, pos := "schema.go:185", after := #[{ on := 1, ground := Go.Ground.data }, { on := 5, ground := Go.Ground.data }, { on := 6, ground := Go.Ground.data }], guard := none }) rfl (fun K hK => ?_) AllReadyH.nil)
        go_simp
        (go_at_call 66; refine (HRES.out _ _ _ _ (HU4.out.trans HP.out.drew (fun _ _ h => h)) (Rp.row_pure HRW.out ((Upd.refl (fun _ => False) _).drew))).mono ?_; rintro r w9 ⟨rfl, hu⟩; have HP9 := As.mk (HP.out.drew.trans hu (fun _ _ h => h)); clear hu)
        refine hK.out _ _ (by first | exact HCEL.out _ HP9.out | exact HCEL.out _ HP.out.drew) (fun hHeld => ?_)
        clear hK K
        (try simp only [Act.put, sA, sB, sC])
        refine zH 8 ?_
        (try simp only [Act.put, sA, sB, sC])
        refine wpAnyH_done (by kernel_rfl) ?_ _
        go_wp2
        go_ret
        exact ⟨by rw [HKS.out]; rfl, HU4.out.trans HP9.out (fun _ _ h => h)⟩
theorem May_ok {w : World} {cb : Nat} {F : Nat → Prop} {A : Option Addr} {c : Nat} {l : List Tok} {n : Nat} {t : Int} {R : Spec × Ex} (h : SchR w cb houseRules houseGroups) (hr : tokR.row w F A l) (hb : l.length ≤ 2048) (hlc : l.length ≤ c) (ok : (houseCheck l).2 = 0) (hn : n ≤ l.length) (hP : AtP l n R)  :
    Calls Tryz.prog 19 #[.pointer (some ⟨cb, 0, none⟩), .slice A l.length c, .int .i64 n, .int .i64 t] w fun r w' => r = .returned (.bool (regAccepts R.2 houseGroups (mayGo l n t (kidsL l (aroundL l n)) false))) ∧ Pure w w' := by
  rcases hP.whole with hw | hw
  · exact May_whole h hr hb hlc ok hn hP hw
  · exact May_in h hr hb hlc ok hn hP hw
set_option maxRecDepth 100000 in
set_option maxHeartbeats 4000000 in
theorem May_no {w : World} {cb : Nat} {F : Nat → Prop} {A : Option Addr} {c : Nat} {l : List Tok} {n t : Int} (h : SchR w cb houseRules houseGroups) (hr : tokR.row w F A l) (hb : l.length ≤ 1048576 * 4) (hno : (houseCheck l).2 ≠ 0 ∨ n < 0 ∨ (l.length : Int) < n) :
    Calls Tryz.prog 19 #[.pointer (some ⟨cb, 0, none⟩), .slice A l.length c, .int .i64 n, .int .i64 t] w fun r w' => r = .returned (.bool false) ∧ Pure w w' := by
  have HCK := As.mk (house_check (c := c) h hr hb)
  have HNO := As.mk hno
  clear h hr hno
  generalize houseCheck l = ck at *
  obtain ⟨f1, f2⟩ := ck
  cases b1 : decide (f2 = 0) <;> cases b2 : decide (n < 0) <;> cases b3 : decide ((l.length : Int) < n)
  all_goals first
    | (exfalso; have h1 := of_decide_eq_true b1; have h2 := of_decide_eq_false b2; have h3 := of_decide_eq_false b3; rcases HNO.out with h | h | h <;> first | exact h h1 | exact h2 h | exact h3 h)
    | skip
  all_goals
    have c1 : (f2 != 0) = !decide (f2 = 0) := rfl
    rw [b1] at c1
    simp only [Bool.not_false, Bool.not_true] at c1
    have c3 : decide (n > (l.length : Int)) = decide ((l.length : Int) < n) := rfl
    rw [b3] at c3
    clear HNO b1
    go_enter Tryz.func19, Tryz.ntmps19
    go_wp2_with (go_at_call 15; refine HCK.out.mono ?_; rintro r w1 ⟨rfl, hu⟩; have HU1 := As.mk hu; clear hu)
    go_ret
    exact ⟨rfl, HU1.out⟩
end Go.Proofs.YtofjodppljnlaaaGreatDoor
namespace Go.Proofs.YtofjodppljnlaaaGreatDoor
open Go.RowKit
set_option linter.unusedVariables false
set_option linter.unusedSimpArgs false
theorem part6 {F : Nat → Prop} {A : Option Addr} {c : Nat} {l : List Tok} {w : World} (hr : tokR.row w F A l) (hb : l.length ≤ 1048576 * 4) (hlc : l.length ≤ c) {i e : Int} (hi : i < 0 ∨ ∃ (j : Nat) (y : Tok), i = j ∧ l[j]? = some y ∧ y.k = 1) (he : ¬ i < 0 → partL l i.toNat = e) :
    ∃ p : Int, (¬ i < 0 → p = e) ∧ Calls Tryz.prog 77 #[.slice A l.length c, .int .i64 i] w fun r w' => r = .returned (.int .i64 p) ∧ Pure w w' := by
  by_cases h0 : i < 0
  · exact ⟨-1, fun h => absurd h0 h, Partner4_out h0⟩
  · rcases hi with h | ⟨j, y, rfl, hy, h1⟩
    · exact absurd h h0
    · refine ⟨partL l j, fun _ => ?_, Partner4_open hr hb hlc hy h1⟩
      have := he h0
      rwa [Int.toNat_natCast] at this
theorem around_kind {l : List Tok} (ok : (houseCheck l).2 = 0) {n : Nat} (hn : n ≤ l.length) : aroundL l n < 0 ∨ ∃ (j : Nat) (y : Tok), aroundL l n = j ∧ l[j]? = some y ∧ y.k = 1 := by
  obtain ⟨top, below, HL, _⟩ := lv_at ok hn
  unfold aroundL
  rcases HL.inv with ⟨h1, _, _⟩ | ⟨j, yt, y, h1, hy, hy1, _⟩
  · exact .inl (by omega)
  · exact .inr ⟨j, y, h1, hy, hy1⟩
set_option maxRecDepth 100000 in
set_option maxHeartbeats 4000000 in
theorem May6_ok {w : World} {cb : Nat} {F : Nat → Prop} {A : Option Addr} {c : Nat} {l : List Tok} {n : Nat} {t : Int} (h : H6 w cb) (hr : tokR.row w F A l) (hlc : l.length ≤ c) (ok : (houseCheck l).2 = 0) (hn : n ≤ l.length) :
    Calls Tryz.prog 20 #[.pointer (some ⟨cb, 0, none⟩), .slice A l.length c, .int .i64 n, .int .i64 t] w fun r w' => r = .returned (.bool (may6 l n t)) ∧ Pure w w' := by
  have hb : l.length ≤ 2048 := ((house_iff l).1 ok).1
  obtain ⟨top, hw, hwd, h1, h2, h3⟩ := lv_word ok hn
  obtain ⟨e, he, hne, hel, hx9⟩ := end_at ok hn
  obtain ⟨top2, below2, hrun, hx8⟩ := at_level ok hn
  obtain ⟨hin, a, ha, hak⟩ := at_in6 hn hrun
  have hkind := around_kind ok hn
  have hpe : ¬ aroundL l n < 0 → partL l (aroundL l n).toNat = (e : Int) := fun h0 => by unfold end6 at he; rwa [if_neg h0] at he
  have hle : aroundL l n < 0 → (l.length : Int) = (e : Int) := fun h0 => by unfold end6 at he; rwa [if_pos h0] at he
  have HCK := As.mk (Check6_calls (c := c) h hr hlc (by omega))
  rw [ok] at HCK
  have HAR := As.mk (fun W (hu : Pure w W) => around4_calls (c := c) (at' := (n : Int)) (Rp.row_pure hr hu) (by omega) hlc)
  have HPT := As.mk (fun W (hu : Pure w W) => part6 (c := c) (Rp.row_pure hr hu) (by omega) hlc hkind hpe)
  have HW1 := As.mk (fun W (hu : Pure w W) => word6_calls (c := c) (a := a) (b := n) (i := aroundL l n) (Rp.row_pure hr hu) (by omega) hn hak ha)
  have HW2 := As.mk (fun W (hu : Pure w W) => word6_calls (c := c) (a := n) (b := e) (i := (n : Int) - 1) (Rp.row_pure hr hu) (by omega) hel hne rfl)
  have HRU := As.mk (fun W (hu : Pure w W) => rule6_calls (c := c) (h.pure hu) (Rp.row_pure hr hu) hin)
  obtain ⟨AW, cW, AL, cL, AE, cE, AG, cG, hcb, c0, c1, c2, c3, c4, c5, _, _, _, hg⟩ := h.cells
  have HG := As.mk hg
  have HOK := As.mk (And.intro house_ok.gl house_ok.gt)
  have HEW := As.mk (rule6_wt l (aroundL l n))
  have HS : As (∀ v, Pure w v → v.cell? ⟨cb, 5, none⟩ = some (.slice AG houseGroups.length cG)) := ⟨fun v hu => (hu.cell hcb (fun h => h)).trans c5⟩
  unfold may6
  rw [he]
  have HLE := As.mk hle
  clear h hr ok hg c0 c1 c2 c3 c4 c5 hwd h3 he hkind hpe hle hin ha hw top hx8 hx9 hrun top2 below2
  generalize houseGroups = gs at *
  generalize (rule6 l (aroundL l n)).2 = ex at *
  generalize wordL l (aroundL l n) n = wd1 at *
  generalize wordL l ((n : Int) - 1) e = wd2 at *
  generalize aroundL l n = ar at *
  generalize (houseCheck l).1 = hp at *
  have hn1 : IntKind.i64.wrap ((n : Int) - 1) = (n : Int) - 1 := IntWalk.i64_in _ (by omega)
  have t1 : decide ((n : Int) < 0) = false := decide_eq_false (by omega)
  have t2 : decide ((n : Int) > (l.length : Int)) = false := decide_eq_false (by omega)
  have t3 : decide ((l.length : Int) < (n : Int)) = false := decide_eq_false (by omega)
  have t4 : decide (l.length < n) = false := decide_eq_false (by omega)
  cases hneg : decide (ar < 0) with
  | false =>
    go_enter Tryz.func20, Tryz.ntmps20
    go_wp2_with (first | (go_at_call 77; obtain ⟨pv, hpv, hpc⟩ := HPT.out _ HU2.out; refine hpc.mono ?_; rintro r w3 ⟨rfl, hu⟩; have HU3 := As.mk (HU2.out.trans hu (fun _ _ h => h)); have HPV := As.mk hpv; clear hu hpc hpv; apply As.out) | (go_at_call 74; refine (HAR.out _ HU1.out).mono ?_; rintro r w2 ⟨rfl, hu⟩; have HU2 := As.mk (HU1.out.trans hu (fun _ _ h => h)); clear hu) | (go_at_call 16; refine HCK.out.mono ?_; rintro r w1 ⟨rfl, hu⟩; have HU1 := As.mk hu; clear hu))
    refine ⟨?_⟩
    obtain rfl : pv = (e : Int) := HPV.out (by have := of_decide_eq_false hneg; omega)
    go_wp2_with (go_at_call 71; refine (HW1.out _ HU3.out).mono ?_; rintro r w4 ⟨v, rfl, ho, hwl, hu⟩; have HO := As.mk ho; have HWL := As.mk hwl; have HU4 := As.mk (HU3.out.trans hu (fun _ _ h => h)); clear ho hu hwl; apply As.out)
    refine ⟨?_⟩
    go_wp2_with (at_builtin; refine Rp.own_append intRS HO.out t [.int .i64 t] rfl (Fp := fun _ => False) (G := fun q => w.heap.size ≤ q) (fun _ h => h.elim) (fun _ h _ => by have := HU3.out.size; omega) (fun q hq => by have := HU4.out.size; omega) rfl _ _ 83 _ 8 rfl Tryz.underlying83 int_infoS rfl (by decide) (by decide) rfl (by simp [Act.eval]) (by have := HWL.out; omega) ?_; intro v1 w5 ho1 hu1; have HO5 := As.mk ho1; have HU5 := As.mk (HU4.out.trans hu1 (fun q hq h => by have := (Rp.own_block_lt HO.out q h).1; have := HU3.out.size; omega)); clear ho1 hu1; apply As.out)
    refine ⟨?_⟩
    have HL5 : As ((wd1 ++ [t]).length ≤ 3000) := ⟨by have := HWL.out; rw [List.length_append, List.length_singleton]; omega⟩
    generalize hwa : wd1 ++ [t] = wa at *
    have HWA := As.mk hwa
    clear hwa
    go_wp2_with (go_at_call 71; refine (HW2.out _ HU5.out).mono ?_; rintro r w6 ⟨v2, rfl, ho, hwl, hu⟩; have HO6 := As.mk (Rp.own_upd HO5.out hu (fun _ _ _ h => h)); have HR6 := As.mk ho; have HWL2 := As.mk hwl; have HU6 := As.mk (HU5.out.trans hu (fun _ _ h => h)); clear ho hu hwl; apply As.out)
    refine ⟨?_⟩
    obtain ⟨A2, cc2, rfl, _, hrow2⟩ := Rp.own_slice HR6.out
    have HROW2 := As.mk hrow2
    have HNB := As.mk (fun q h => (Rp.own_block_lt HO5.out q h).2)
    clear hrow2
    go_wp2_with (at_builtin; refine Rp.append_row intRS (c := cc2) HO6.out (Rp.row'_of (G := fun _ => False) HROW2.out (fun _ _ h => h)) (fun _ h => h.elim) rfl _ _ 83 _ 8 rfl Tryz.underlying83 int_infoS rfl (by decide) (by decide) rfl rfl (by have := HL5.out; have := HWL2.out; omega) ?_; intro v3 w7 ho1 hu1 hat; have HO7 := As.mk ho1; have HU7 := As.mk (HU6.out.trans hu1 (fun q hq h => by have := (Rp.own_block_lt HO6.out q h).1; omega)); clear ho1 hu1 hat; apply As.out)
    refine ⟨?_⟩
    have HL7 : As ((wa ++ wd2).length ≤ 1048576 * 4) := ⟨by have := HL5.out; have := HWL2.out; rw [List.length_append]; omega⟩
    generalize hwb : wa ++ wd2 = wb at *
    have HWB := As.mk hwb
    clear hwb
    obtain ⟨Av, cv, rfl, _, hrow⟩ := Rp.own_slice HO7.out
    have HW := As.mk (Rp.row_pure (Rp.row_here hrow) (Upd.refl (fun _ => False) _).drew)
    clear hrow
    have HUD := As.mk HU7.out.drew
    go_wp2
    refine wp_region_T (P := Tryz.prog) (fun v => v.cell? ⟨cb, 5, none⟩ = some (.slice AG gs.length cG)) 10 (by kernel_rfl) ?_ (fun hHeld => ?_)
    · first | exact HS.out _ HU9.out | exact HS.out _ HU8.out | exact HS.out _ HUD.out
    refine zT 0 ?_
    (try simp only [Act.put, sA, sB, sC])
    refine zT 1 ?_
    (try simp only [Act.put, sA, sB, sC])
    refine zT 2 ?_
    (try simp only [Act.put, sA, sB, sC])
    refine zT 4 ?_
    (try simp only [Act.put, sA, sB, sC])
    refine zT 5 ?_
    (try simp only [Act.put, sA, sB, sC])
    refine zT 6 ?_
    (try simp only [Act.put, sA, sB, sC])
    refine zT 7 ?_
    (try simp only [Act.put, sA, sB, sC])
    refine zT 8 ?_
    (try simp only [Act.put, sA, sB, sC])
    refine oT 3 (fun K hK => ?_)
    go_simp
    (go_at_call 78; refine (HRU.out _ HUD.out).mono ?_; rintro r w8 ⟨⟨A1, c1, rfl, hrw⟩, hu⟩; have HX := As.mk hrw; have HP8 := As.mk hu; have HU8 := As.mk (HUD.out.trans hu (fun _ _ h => h)); clear hrw hu)
    refine hK.out _ _ (fun _ => by first | exact HS.out _ HU9.out | exact HS.out _ HU8.out | exact HS.out _ HUD.out) (fun hHeld => ?_)
    replace hHeld := hHeld (by decide)
    clear hK K
    (try simp only [Act.put, sA, sB, sC])
    refine oT 9 (fun K hK => ?_)
    go_simp
    (go_at_call 70; refine (accepts6_calls HX.out (Rp.row_pure HG.out HU8.out) (Rp.row_pure HW.out HP8.out) HEW.out HOK.out.1 HOK.out.2 HL7.out).mono ?_; rintro r w9 ⟨rfl, hu⟩; have HU9 := As.mk (HU8.out.trans hu (fun _ _ h => h)); clear hu)
    refine hK.out _ _ (fun _ => by first | exact HS.out _ HU9.out | exact HS.out _ HU8.out | exact HS.out _ HUD.out) (fun hHeld => ?_)
    replace hHeld := hHeld (by decide)
    clear hK K
    (try simp only [Act.put, sA, sB, sC])
    refine oT 10 (fun K hK => ?_)
    go_simp
    refine hK.out _ _ (fun h => absurd rfl h) (fun hHeld => ?_)
    clear hK K
    (try simp only [Act.put, sA, sB, sC])
    refine wpAnyT_done (by kernel_rfl) ?_ _
    go_wp2
    go_ret
    exact ⟨by rw [HWA.out, HWB.out]; rfl, HU9.out⟩
  | true =>
    obtain rfl : l.length = e := by have := HLE.out (of_decide_eq_true hneg); omega
    go_enter Tryz.func20, Tryz.ntmps20
    go_wp2_with (first | (go_at_call 77; obtain ⟨pv, hpv, hpc⟩ := HPT.out _ HU2.out; refine hpc.mono ?_; rintro r w3 ⟨rfl, hu⟩; have HU3 := As.mk (HU2.out.trans hu (fun _ _ h => h)); have HPV := As.mk hpv; clear hu hpc hpv; apply As.out) | (go_at_call 74; refine (HAR.out _ HU1.out).mono ?_; rintro r w2 ⟨rfl, hu⟩; have HU2 := As.mk (HU1.out.trans hu (fun _ _ h => h)); clear hu) | (go_at_call 16; refine HCK.out.mono ?_; rintro r w1 ⟨rfl, hu⟩; have HU1 := As.mk hu; clear hu))
    refine ⟨?_⟩
    clear HPV
    go_wp2_with (go_at_call 71; refine (HW1.out _ HU3.out).mono ?_; rintro r w4 ⟨v, rfl, ho, hwl, hu⟩; have HO := As.mk ho; have HWL := As.mk hwl; have HU4 := As.mk (HU3.out.trans hu (fun _ _ h => h)); clear ho hu hwl; apply As.out)
    refine ⟨?_⟩
    go_wp2_with (at_builtin; refine Rp.own_append intRS HO.out t [.int .i64 t] rfl (Fp := fun _ => False) (G := fun q => w.heap.size ≤ q) (fun _ h => h.elim) (fun _ h _ => by have := HU3.out.size; omega) (fun q hq => by have := HU4.out.size; omega) rfl _ _ 83 _ 8 rfl Tryz.underlying83 int_infoS rfl (by decide) (by decide) rfl (by simp [Act.eval]) (by have := HWL.out; omega) ?_; intro v1 w5 ho1 hu1; have HO5 := As.mk ho1; have HU5 := As.mk (HU4.out.trans hu1 (fun q hq h => by have := (Rp.own_block_lt HO.out q h).1; have := HU3.out.size; omega)); clear ho1 hu1; apply As.out)
    refine ⟨?_⟩
    have HL5 : As ((wd1 ++ [t]).length ≤ 3000) := ⟨by have := HWL.out; rw [List.length_append, List.length_singleton]; omega⟩
    generalize hwa : wd1 ++ [t] = wa at *
    have HWA := As.mk hwa
    clear hwa
    go_wp2_with (go_at_call 71; refine (HW2.out _ HU5.out).mono ?_; rintro r w6 ⟨v2, rfl, ho, hwl, hu⟩; have HO6 := As.mk (Rp.own_upd HO5.out hu (fun _ _ _ h => h)); have HR6 := As.mk ho; have HWL2 := As.mk hwl; have HU6 := As.mk (HU5.out.trans hu (fun _ _ h => h)); clear ho hu hwl; apply As.out)
    refine ⟨?_⟩
    obtain ⟨A2, cc2, rfl, _, hrow2⟩ := Rp.own_slice HR6.out
    have HROW2 := As.mk hrow2
    have HNB := As.mk (fun q h => (Rp.own_block_lt HO5.out q h).2)
    clear hrow2
    go_wp2_with (at_builtin; refine Rp.append_row intRS (c := cc2) HO6.out (Rp.row'_of (G := fun _ => False) HROW2.out (fun _ _ h => h)) (fun _ h => h.elim) rfl _ _ 83 _ 8 rfl Tryz.underlying83 int_infoS rfl (by decide) (by decide) rfl rfl (by have := HL5.out; have := HWL2.out; omega) ?_; intro v3 w7 ho1 hu1 hat; have HO7 := As.mk ho1; have HU7 := As.mk (HU6.out.trans hu1 (fun q hq h => by have := (Rp.own_block_lt HO6.out q h).1; omega)); clear ho1 hu1 hat; apply As.out)
    refine ⟨?_⟩
    have HL7 : As ((wa ++ wd2).length ≤ 1048576 * 4) := ⟨by have := HL5.out; have := HWL2.out; rw [List.length_append]; omega⟩
    generalize hwb : wa ++ wd2 = wb at *
    have HWB := As.mk hwb
    clear hwb
    obtain ⟨Av, cv, rfl, _, hrow⟩ := Rp.own_slice HO7.out
    have HW := As.mk (Rp.row_pure (Rp.row_here hrow) (Upd.refl (fun _ => False) _).drew)
    clear hrow
    have HUD := As.mk HU7.out.drew
    go_wp2
    refine wp_region_T (P := Tryz.prog) (fun v => v.cell? ⟨cb, 5, none⟩ = some (.slice AG gs.length cG)) 10 (by kernel_rfl) ?_ (fun hHeld => ?_)
    · first | exact HS.out _ HU9.out | exact HS.out _ HU8.out | exact HS.out _ HUD.out
    refine zT 0 ?_
    (try simp only [Act.put, sA, sB, sC])
    refine zT 1 ?_
    (try simp only [Act.put, sA, sB, sC])
    refine zT 2 ?_
    (try simp only [Act.put, sA, sB, sC])
    refine zT 4 ?_
    (try simp only [Act.put, sA, sB, sC])
    refine zT 5 ?_
    (try simp only [Act.put, sA, sB, sC])
    refine zT 6 ?_
    (try simp only [Act.put, sA, sB, sC])
    refine zT 7 ?_
    (try simp only [Act.put, sA, sB, sC])
    refine zT 8 ?_
    (try simp only [Act.put, sA, sB, sC])
    refine oT 3 (fun K hK => ?_)
    go_simp
    (go_at_call 78; refine (HRU.out _ HUD.out).mono ?_; rintro r w8 ⟨⟨A1, c1, rfl, hrw⟩, hu⟩; have HX := As.mk hrw; have HP8 := As.mk hu; have HU8 := As.mk (HUD.out.trans hu (fun _ _ h => h)); clear hrw hu)
    refine hK.out _ _ (fun _ => by first | exact HS.out _ HU9.out | exact HS.out _ HU8.out | exact HS.out _ HUD.out) (fun hHeld => ?_)
    replace hHeld := hHeld (by decide)
    clear hK K
    (try simp only [Act.put, sA, sB, sC])
    refine oT 9 (fun K hK => ?_)
    go_simp
    (go_at_call 70; refine (accepts6_calls HX.out (Rp.row_pure HG.out HU8.out) (Rp.row_pure HW.out HP8.out) HEW.out HOK.out.1 HOK.out.2 HL7.out).mono ?_; rintro r w9 ⟨rfl, hu⟩; have HU9 := As.mk (HU8.out.trans hu (fun _ _ h => h)); clear hu)
    refine hK.out _ _ (fun _ => by first | exact HS.out _ HU9.out | exact HS.out _ HU8.out | exact HS.out _ HUD.out) (fun hHeld => ?_)
    replace hHeld := hHeld (by decide)
    clear hK K
    (try simp only [Act.put, sA, sB, sC])
    refine oT 10 (fun K hK => ?_)
    go_simp
    refine hK.out _ _ (fun h => absurd rfl h) (fun hHeld => ?_)
    clear hK K
    (try simp only [Act.put, sA, sB, sC])
    refine wpAnyT_done (by kernel_rfl) ?_ _
    go_wp2
    go_ret
    exact ⟨by rw [HWA.out, HWB.out]; rfl, HU9.out⟩
set_option maxRecDepth 100000 in
set_option maxHeartbeats 4000000 in
theorem May6_no {w : World} {cb : Nat} {F : Nat → Prop} {A : Option Addr} {c : Nat} {l : List Tok} {n t : Int} (h : H6 w cb) (hr : tokR.row w F A l) (hlc : l.length ≤ c) (hb : l.length ≤ 1048576 * 4) (hno : (houseCheck l).2 ≠ 0 ∨ n < 0 ∨ (l.length : Int) < n) :
    Calls Tryz.prog 20 #[.pointer (some ⟨cb, 0, none⟩), .slice A l.length c, .int .i64 n, .int .i64 t] w fun r w' => r = .returned (.bool false) ∧ Pure w w' := by
  have HCK := As.mk (Check6_calls (c := c) h hr hlc hb)
  have HNO := As.mk hno
  clear h hr hno
  generalize houseCheck l = ck at *
  obtain ⟨f1, f2⟩ := ck
  cases b1 : decide (f2 = 0) <;> cases b2 : decide (n < 0) <;> cases b3 : decide ((l.length : Int) < n)
  all_goals first
    | (exfalso; have h1 := of_decide_eq_true b1; have h2 := of_decide_eq_false b2; have h3 := of_decide_eq_false b3; rcases HNO.out with h | h | h <;> first | exact h h1 | exact h2 h | exact h3 h)
    | skip
  all_goals
    have c1 : (f2 != 0) = !decide (f2 = 0) := rfl
    rw [b1] at c1
    simp only [Bool.not_false, Bool.not_true] at c1
    have c3 : decide (n > (l.length : Int)) = decide ((l.length : Int) < n) := rfl
    rw [b3] at c3
    clear HNO b1
    go_enter Tryz.func20, Tryz.ntmps20
    go_wp2_with (go_at_call 16; refine HCK.out.mono ?_; rintro r w1 ⟨rfl, hu⟩; have HU1 := As.mk hu; clear hu)
    go_ret
    exact ⟨rfl, HU1.out⟩
end Go.Proofs.YtofjodppljnlaaaGreatDoor
namespace Go.Proofs.YtofjodppljnlaaaGreatDoor
open Go.RowKit
set_option linter.unusedVariables false
set_option linter.unusedSimpArgs false
end Go.Proofs.YtofjodppljnlaaaGreatDoor
namespace Go.Proofs.YtofjodppljnlaaaGreatDoor
open Go.RowKit
set_option linter.unusedVariables false
set_option linter.unusedSimpArgs false
def mayE (l : List Tok) (n t : Int) : Bool := if (houseCheck l).2 ≠ 0 ∨ n < 0 ∨ (l.length : Int) < n then false else may6 l n t
theorem may_not {l : List Tok} {n : Int} (h : ¬ ((houseCheck l).2 ≠ 0 ∨ n < 0 ∨ (l.length : Int) < n)) : (houseCheck l).2 = 0 ∧ ∃ k : Nat, n = k ∧ k ≤ l.length :=
  ⟨Classical.not_not.1 (fun e => h (.inl e)), n.toNat, by have : ¬ n < 0 := fun e => h (.inr (.inl e)); omega, by have : ¬ (l.length : Int) < n := fun e => h (.inr (.inr e)); omega⟩
theorem May6_all {w : World} {cb : Nat} {F : Nat → Prop} {A : Option Addr} {c : Nat} {l : List Tok} {n t : Int} (h : H6 w cb) (hr : tokR.row w F A l) (hb : l.length ≤ 2047) (hlc : l.length ≤ c) :
    Calls Tryz.prog 20 #[.pointer (some ⟨cb, 0, none⟩), .slice A l.length c, .int .i64 n, .int .i64 t] w fun r w' => r = .returned (.bool (mayE l n t)) ∧ Pure w w' := by
  unfold mayE
  by_cases hno : (houseCheck l).2 ≠ 0 ∨ n < 0 ∨ (l.length : Int) < n
  · rw [if_pos hno]
    exact May6_no h hr hlc (by omega) hno
  · rw [if_neg hno]
    obtain ⟨ok, k, rfl, hk⟩ := may_not hno
    exact May6_ok h hr hlc ok hk
end Go.Proofs.YtofjodppljnlaaaGreatDoor
namespace Go.Proofs.YtofjodppljnlaaaGreatDoor
open Go.RowKit
set_option linter.unusedVariables false
set_option linter.unusedSimpArgs false
/-- May text stand at a place? -/
def mayF (l : List Tok) (p : Int) : Bool := decide (0 ≤ p ∧ p ≤ (l.length : Int)) && decide ((houseCheck (l.take p.toNat ++ letter :: l.drop p.toNat)).2 = 0)
theorem may_text {w : World} {cb : Nat} {F : Nat → Prop} {A : Option Addr} {c : Nat} {l : List Tok} (h : SchR w cb houseRules houseGroups) (hr : tokR.row w F A l) (hb : l.length ≤ 200) (hlc : l.length ≤ c) (ok : (houseCheck l).2 = 0) (p : Int) :
    Calls Tryz.prog 19 #[.pointer (some ⟨cb, 0, none⟩), .slice A l.length c, .int .i64 p, .int .i64 0] w fun r w' => r = .returned (.bool (mayF l p)) ∧ Pure w w' := by
  by_cases hp : 0 ≤ p ∧ p ≤ (l.length : Int)
  · obtain ⟨n, rfl⟩ : ∃ n : Nat, p = n := ⟨p.toNat, by omega⟩
    obtain ⟨R, hP⟩ := at_place ok hb (n := n) (by omega)
    have h1 := May_ok (t := 0) h hr (by omega) hlc ok (by omega) hP
    rw [may_iff hP] at h1
    have h2 : mayF l n = decide ((houseCheck (l.take n ++ letter :: l.drop n)).2 = 0) := by
      unfold mayF
      rw [decide_eq_true hp, Int.toNat_natCast]
      exact Bool.true_and _
    rw [h2]
    exact h1
  · have h2 : mayF l p = false := by
      unfold mayF
      rw [decide_eq_false hp]
      exact Bool.false_and _
    rw [h2]
    exact May_no h hr (by omega) (by omega)
/-- The text places from p on, by steps of s. -/
def plc (l : List Tok) (s : Int) : Nat → Int → List Int
  | 0, _ => []
  | f + 1, p => if 0 ≤ p ∧ p ≤ (l.length : Int) then (if mayF l p = true then p :: plc l s f (p + s) else plc l s f (p + s)) else []
/-- So many steps are enough. -/
def Enough (l : List Tok) (s : Int) (f : Nat) (p : Int) : Prop := (s = 1 ∧ (l.length : Int) - p + 1 ≤ f) ∨ (s = -1 ∧ p + 1 ≤ f)
theorem Enough.next {l : List Tok} {s p : Int} {f : Nat} (h : Enough l s (f + 1) p) : Enough l s f (p + s) := by
  rcases h with ⟨rfl, h⟩ | ⟨rfl, h⟩
  · exact .inl ⟨rfl, by omega⟩
  · exact .inr ⟨rfl, by omega⟩
theorem Enough.pos {l : List Tok} {s p : Int} {f : Nat} (h : Enough l s f p) (hp : 0 ≤ p ∧ p ≤ (l.length : Int)) : ∃ g, f = g + 1 := by
  rcases h with ⟨_, h⟩ | ⟨_, h⟩ <;> exact ⟨f - 1, by omega⟩
theorem plc_more (l : List Tok) (s : Int) : ∀ (f g : Nat) (p : Int), Enough l s f p → Enough l s g p → plc l s f p = plc l s g p := by
  intro f
  induction f with
  | zero =>
    intro g p h1 h2
    have hp : ¬ (0 ≤ p ∧ p ≤ (l.length : Int)) := fun h => by obtain ⟨k, hk⟩ := h1.pos h; omega
    cases g with
    | zero => rfl
    | succ g => rw [plc, plc, if_neg hp]
  | succ f ih =>
    intro g p h1 h2
    by_cases hp : 0 ≤ p ∧ p ≤ (l.length : Int)
    · obtain ⟨g, rfl⟩ := h2.pos hp
      rw [plc, plc, if_pos hp, if_pos hp, ih g (p + s) h1.next h2.next]
    · cases g with
      | zero => rw [plc, plc, if_neg hp]
      | succ g => rw [plc, plc, if_neg hp, if_neg hp]
def places (l : List Tok) (s p : Int) : List Int := plc l s (l.length + 2 + p.natAbs) p
theorem enough_places (l : List Tok) {s : Int} (hs : s = 1 ∨ s = -1) (p : Int) : Enough l s (l.length + 2 + p.natAbs) p := by
  rcases hs with rfl | rfl
  · exact .inl ⟨rfl, by omega⟩
  · exact .inr ⟨rfl, by omega⟩
/-- The first text place of a side. -/
theorem first_spec (l : List Tok) {s : Int} (hs : s = 1 ∨ s = -1) : ∀ (f : Nat) (p : Int), Enough l s f p → 
    (∃ q k : Nat, (plc l s f p).head? = some (p + s * k) ∧ q = k ∧ mayF l (p + s * k) = true ∧ ∀ j : Nat, j < k → mayF l (p + s * j) = false) ∨ ((plc l s f p) = [] ∧ (0 ≤ p ∧ p ≤ (l.length : Int) → ∀ j : Nat, mayF l (p + s * j) = false)) := by
  intro f
  induction f with
  | zero =>
    intro p h
    refine .inr ⟨rfl, fun hp => ?_⟩
    obtain ⟨g, hg⟩ := h.pos hp
    omega
  | succ f ih =>
    intro p h
    rw [plc]
    by_cases hp : 0 ≤ p ∧ p ≤ (l.length : Int)
    · rw [if_pos hp]
      cases hm : mayF l p
      · simp only [Bool.false_eq_true, if_false]
        have hnext : ∀ j : Nat, p + s * ((j + 1 : Nat) : Int) = p + s + s * j := fun j => by rw [Int.natCast_add, Int.mul_add]; simp; omega
        rcases ih (p + s) h.next with ⟨q, k, h1, h2, h3, h4⟩ | ⟨h1, h2⟩
        · refine .inl ⟨q + 1, k + 1, by rw [h1, hnext], by omega, by rw [hnext]; exact h3, fun j hj => ?_⟩
          cases j with
          | zero => simpa using hm
          | succ j => rw [hnext]; exact h4 j (by omega)
        · refine .inr ⟨h1, fun _ j => ?_⟩
          cases j with
          | zero => simpa using hm
          | succ j =>
            rw [hnext]
            by_cases hp2 : 0 ≤ p + s ∧ p + s ≤ (l.length : Int)
            · exact h2 hp2 j
            · unfold mayF
              rw [decide_eq_false (by rcases hs with rfl | rfl <;> omega)]
              exact Bool.false_and _
      · simp only [if_true]
        exact .inl ⟨0, 0, by simp, rfl, by simpa using hm, fun j hj => by omega⟩
    · rw [if_neg hp]
      exact .inr ⟨rfl, fun h => absurd h hp⟩
end Go.Proofs.YtofjodppljnlaaaGreatDoor
namespace Go.Proofs.YtofjodppljnlaaaGreatDoor
/-- The first text place of a side, and how far it is. -/
def firstV (l : List Tok) (s p : Int) : Int × Int := match places l s p with
  | q :: _ => (q, (q - p) * s)
  | [] => (0, (l.length : Int) + 1)
theorem firstV_spec (l : List Tok) {s p : Int} (hs : s = 1 ∨ s = -1) (hp : 0 ≤ p ∧ p ≤ (l.length : Int)) :
    (∃ k : Nat, firstV l s p = (p + s * k, (k : Int)) ∧ mayF l (p + s * k) = true ∧ ∀ j : Nat, j < k → mayF l (p + s * j) = false) ∨ (firstV l s p = (0, (l.length : Int) + 1) ∧ ∀ j : Nat, mayF l (p + s * j) = false) := by
  rcases first_spec l hs _ p (enough_places l hs p) with ⟨q, k, h1, _, h3, h4⟩ | ⟨h1, h2⟩
  · refine .inl ⟨k, ?_, h3, h4⟩
    unfold firstV places
    cases hpl : plc l s (l.length + 2 + p.natAbs) p with
    | nil => rw [hpl] at h1; cases h1
    | cons x r =>
      rw [hpl] at h1
      simp only [List.head?_cons, Option.some.injEq] at h1
      subst h1
      rcases hs with rfl | rfl <;> simp <;> omega
  · refine .inr ⟨?_, h2 hp⟩
    unfold firstV places
    rw [h1]
def nearV (l : List Tok) (p side : Int) : Int × Int :=
  if min (firstV l (-1) p).2 (firstV l 1 p).2 > (l.length : Int) then (0, 6)
  else if (firstV l (-1) p).2 < (firstV l 1 p).2 ∨ ((firstV l (-1) p).2 = (firstV l 1 p).2 ∧ side < 0) then ((firstV l (-1) p).1, 0) else ((firstV l 1 p).1, 0)
theorem mayF_in {l : List Tok} {p : Int} (h : mayF l p = true) : 0 ≤ p ∧ p ≤ (l.length : Int) := by
  unfold mayF at h
  rw [Bool.and_eq_true, decide_eq_true_eq] at h
  exact h.1
end Go.Proofs.YtofjodppljnlaaaGreatDoor
namespace Go.Proofs.YtofjodppljnlaaaGreatDoor
open Go.RowKit
set_option linter.unusedVariables false
set_option linter.unusedSimpArgs false
def cmayV (l : List Tok) (p : Int) : Int := if (houseCheck l).2 ≠ 0 then (houseCheck l).2 else if p < 0 ∨ (l.length : Int) < p then 1 else 0
set_option maxRecDepth 100000 in
set_option maxHeartbeats 4000000 in
theorem cmay_calls {w : World} {cb : Nat} {F : Nat → Prop} {A : Option Addr} {c : Nat} {l : List Tok} {p : Int} (h : SchR w cb houseRules houseGroups) (hr : tokR.row w F A l) (hb : l.length ≤ 200) :
    Calls Tryz.prog 79 #[.pointer (some ⟨cb, 0, none⟩), .slice A l.length c, .int .i64 p] w fun r w' => r = .returned (.int .i64 (cmayV l p)) ∧ Pure w w' := by
  have HCK := As.mk (house_check (c := c) h hr (by omega))
  have HV := As.mk (show cmayV l p = if (houseCheck l).2 ≠ 0 then (houseCheck l).2 else if p < 0 ∨ (l.length : Int) < p then 1 else 0 from rfl)
  clear h hr
  generalize cmayV l p = cv at *
  generalize houseCheck l = ck at *
  obtain ⟨f1, f2⟩ := ck
  cases b1 : decide (f2 = 0) <;> cases b2 : decide (p < 0) <;> cases b3 : decide ((l.length : Int) < p)
  all_goals
    have c1 : (f2 != 0) = !decide (f2 = 0) := rfl
    rw [b1] at c1
    simp only [Bool.not_false, Bool.not_true] at c1
    have c3 : decide (p > (l.length : Int)) = decide ((l.length : Int) < p) := rfl
    rw [b3] at c3
    have B1 := As.mk b1
    have B2 := As.mk b2
    have B3 := As.mk b3
    clear b1
    go_enter Tryz.func79, Tryz.ntmps79
    go_wp2_with (go_at_call 15; refine HCK.out.mono ?_; rintro r w1 ⟨rfl, hu⟩; have HU1 := As.mk hu; clear hu)
    go_ret
    refine ⟨?_, HU1.out⟩
    have e1 := B1.out
    have e2 := B2.out
    have e3 := B3.out
    simp only [decide_eq_true_eq, decide_eq_false_iff_not] at e1 e2 e3
    rw [HV.out]
    simp [e1, e2, e3]
theorem cmay_zero {l : List Tok} {p : Int} (h : cmayV l p = 0) : (houseCheck l).2 = 0 ∧ 0 ≤ p ∧ p ≤ (l.length : Int) := by
  unfold cmayV at h
  split at h
  · rename_i h1
    exact absurd h h1
  · rename_i h1
    split at h
    · cases h
    · exact ⟨by omega, by omega, by omega⟩
end Go.Proofs.YtofjodppljnlaaaGreatDoor
namespace Go.Proofs.YtofjodppljnlaaaGreatDoor
open Go.RowKit
set_option linter.unusedVariables false
set_option linter.unusedSimpArgs false
def textV (l : List Tok) (p : Int) : Bool × Int := if cmayV l p ≠ 0 then (false, cmayV l p) else (mayF l p, 0)
set_option maxRecDepth 100000 in
set_option maxHeartbeats 4000000 in
theorem ctext_calls {w : World} {cb : Nat} {F : Nat → Prop} {A : Option Addr} {c : Nat} {l : List Tok} {p : Int} (h : SchR w cb houseRules houseGroups) (hr : tokR.row w F A l) (hb : l.length ≤ 200) (hlc : l.length ≤ c) :
    Calls Tryz.prog 22 #[.pointer (some ⟨cb, 0, none⟩), .slice A l.length c, .int .i64 p] w fun r w' => r = .returned (.tuple #[.bool (textV l p).1, .int .i64 (textV l p).2]) ∧ Pure w w' := by
  have HM := As.mk (cmay_calls (c := c) (p := p) h hr hb)
  by_cases h0 : cmayV l p = 0
  · have HT := As.mk (fun (W : World) (hu : Pure w W) => may_text (h.pure hu) (Rp.row_pure hr hu) hb hlc (cmay_zero h0).1 p)
    rw [h0] at HM
    have hv : textV l p = (mayF l p, 0) := by unfold textV; rw [if_neg (by omega)]
    rw [hv]
    clear h hr h0 hv
    generalize mayF l p = mf at *
    go_enter Tryz.func22, Tryz.ntmps22
    go_wp2_with (first | (go_at_call 19; refine (HT.out w1 HU1.out).mono ?_; rintro r w2 ⟨rfl, hu⟩; have HU2 := As.mk (HU1.out.trans hu (fun _ _ h => h)); clear hu) | (go_at_call 79; refine HM.out.mono ?_; rintro r w1 ⟨rfl, hu⟩; have HU1 := As.mk hu; clear hu))
    exact bodyPost_ret (v := .tuple #[.bool mf, .int .i64 0]) (by simp [results, Tryz.results22, go_sem]) rfl ⟨rfl, HU2.out⟩
  · have hv : textV l p = (false, cmayV l p) := by unfold textV; rw [if_pos h0]
    rw [hv]
    have c1 : (cmayV l p != 0) = true := by simpa using h0
    clear h hr h0 hv
    generalize cmayV l p = cv at *
    go_enter Tryz.func22, Tryz.ntmps22
    go_wp2_with (go_at_call 79; refine HM.out.mono ?_; rintro r w1 ⟨rfl, hu⟩; have HU1 := As.mk hu; clear hu)
    exact bodyPost_ret (v := .tuple #[.bool false, .int .i64 cv]) (by simp [results, Tryz.results22, go_sem]) rfl ⟨rfl, HU1.out⟩
end Go.Proofs.YtofjodppljnlaaaGreatDoor
namespace Go.Proofs.YtofjodppljnlaaaGreatDoor
open Go.RowKit
set_option linter.unusedVariables false
set_option linter.unusedSimpArgs false
def lastTake (l : List Tok) (s : Int) (k : Nat) (p : Int) : Int := ((places l s (p + s)).take k).getLast?.getD p
def sideOf (n : Int) : Int := if n < 0 then -1 else 1
def moveV (l : List Tok) (p n : Int) : Int := if n = 0 then p else lastTake l (sideOf n) n.natAbs p
theorem getLast_cons (q : Int) (r : List Int) (d : Int) : (q :: r).getLast?.getD d = r.getLast?.getD q := by
  cases r with
  | nil => rfl
  | cons x t => rw [List.getLast?_cons_cons]; simp [List.getLast?_cons]
end Go.Proofs.YtofjodppljnlaaaGreatDoor
namespace Go.Proofs.YtofjodppljnlaaaGreatDoor
open Go.RowKit
set_option linter.unusedVariables false
set_option linter.unusedSimpArgs false
theorem mayE_text {l : List Tok} (hb : l.length ≤ 200) (ok : (houseCheck l).2 = 0) (p : Int) : mayE l p 0 = mayF l p := by
  unfold mayE
  by_cases hno : (houseCheck l).2 ≠ 0 ∨ p < 0 ∨ (l.length : Int) < p
  · rw [if_pos hno]
    unfold mayF
    rw [decide_eq_false (by omega)]
    rfl
  · rw [if_neg hno]
    obtain ⟨_, n, rfl, hn⟩ := may_not hno
    obtain ⟨R, hP⟩ := at_place ok hb hn
    rw [← may_same ok hn hP, may_iff hP]
    unfold mayF
    rw [decide_eq_true (by omega : 0 ≤ (n : Int) ∧ (n : Int) ≤ (l.length : Int)), Int.toNat_natCast]
    exact (Bool.true_and _).symm
theorem May6_text {w : World} {cb : Nat} {F : Nat → Prop} {A : Option Addr} {c : Nat} {l : List Tok} (h : H6 w cb) (hr : tokR.row w F A l) (hb : l.length ≤ 200) (hlc : l.length ≤ c) (ok : (houseCheck l).2 = 0) (p : Int) :
    Calls Tryz.prog 20 #[.pointer (some ⟨cb, 0, none⟩), .slice A l.length c, .int .i64 p, .int .i64 0] w fun r w' => r = .returned (.bool (mayF l p)) ∧ Pure w w' := by
  rw [← mayE_text hb ok]
  exact May6_all h hr (by omega) hlc
set_option maxRecDepth 100000 in
set_option maxHeartbeats 4000000 in
theorem may11_calls {w : World} {cb : Nat} {F : Nat → Prop} {A : Option Addr} {c : Nat} {l : List Tok} {p : Int} (h : H6 w cb) (hr : tokR.row w F A l) (hb : l.length ≤ 1048576 * 4) (hlc : l.length ≤ c) :
    Calls Tryz.prog 80 #[.pointer (some ⟨cb, 0, none⟩), .slice A l.length c, .int .i64 p] w fun r w' => r = .returned (.int .i64 (cmayV l p)) ∧ Pure w w' := by
  have HCK := As.mk (Check6_calls (c := c) h hr hlc hb)
  have HV := As.mk (show cmayV l p = if (houseCheck l).2 ≠ 0 then (houseCheck l).2 else if p < 0 ∨ (l.length : Int) < p then 1 else 0 from rfl)
  generalize cmayV l p = cv at *
  clear h hr
  generalize houseCheck l = ck at *
  obtain ⟨f1, f2⟩ := ck
  cases b1 : decide (f2 = 0) <;> cases b2 : decide (p < 0) <;> cases b3 : decide ((l.length : Int) < p)
  all_goals
    have c1 : (f2 != 0) = !decide (f2 = 0) := rfl
    rw [b1] at c1
    simp only [Bool.not_false, Bool.not_true] at c1
    have c3 : decide (p > (l.length : Int)) = decide ((l.length : Int) < p) := rfl
    rw [b3] at c3
    have HB := As.mk (And.intro b1 (And.intro b2 b3))
    clear b1
    go_enter Tryz.func80, Tryz.ntmps80
    go_wp2_with (go_at_call 16; refine HCK.out.mono ?_; rintro r w1 ⟨rfl, hu⟩; have HU1 := As.mk hu; clear hu)
    go_ret
    refine ⟨?_, HU1.out⟩
    obtain ⟨d1, d2, d3⟩ := HB.out
    simp only [decide_eq_true_eq, decide_eq_false_iff_not] at d1 d2 d3
    rw [HV.out]
    show Ending.returned (Value.int IntKind.i64 _) = _
    congr 2
    (repeat' split) <;> omega
set_option maxRecDepth 100000 in
set_option maxHeartbeats 4000000 in
theorem Text11_calls {w : World} {cb : Nat} {F : Nat → Prop} {A : Option Addr} {c : Nat} {l : List Tok} {p : Int} (h : H6 w cb) (hr : tokR.row w F A l) (hb : l.length ≤ 200) (hlc : l.length ≤ c) :
    Calls Tryz.prog 23 #[.pointer (some ⟨cb, 0, none⟩), .slice A l.length c, .int .i64 p] w fun r w' => r = .returned (.tuple #[.bool (textV l p).1, .int .i64 (textV l p).2]) ∧ Pure w w' := by
  have HM := As.mk (may11_calls (c := c) (p := p) h hr (by omega) hlc)
  by_cases h0 : cmayV l p = 0
  · have hv : textV l p = (mayF l p, 0) := by unfold textV; rw [if_neg (by omega)]
    rw [hv]
    rw [h0] at HM
    have HT := As.mk (fun W (hu : Pure w W) => May6_text (c := c) (h.pure hu) (Rp.row_pure hr hu) hb hlc (cmay_zero h0).1 p)
    generalize mayF l p = m at *
    clear h hr h0 hv
    go_enter Tryz.func23, Tryz.ntmps23
    go_wp2_with (first | (go_at_call 20; refine (HT.out _ HU1.out).mono ?_; rintro r w2 ⟨rfl, hu⟩; have HU2 := As.mk (HU1.out.trans hu (fun _ _ h => h)); clear hu) | (go_at_call 80; refine HM.out.mono ?_; rintro r w1 ⟨rfl, hu⟩; have HU1 := As.mk hu; clear hu))
    exact bodyPost_ret (results_tmp2 rfl _ _ _) rfl ⟨rfl, HU2.out⟩
  · have hv : textV l p = (false, cmayV l p) := by unfold textV; rw [if_pos h0]
    rw [hv]
    have h1 : (cmayV l p != 0) = true := by simpa using h0
    generalize cmayV l p = e at *
    clear h hr h0 hv
    go_enter Tryz.func23, Tryz.ntmps23
    go_wp2_with (go_at_call 80; refine HM.out.mono ?_; rintro r w1 ⟨rfl, hu⟩; have HU1 := As.mk hu; clear hu)
    exact bodyPost_ret (results_tmp2 rfl _ _ _) rfl ⟨rfl, HU1.out⟩
theorem firstV_ge {l : List Tok} {s p : Int} (hs : s = 1 ∨ s = -1) (hp : 0 ≤ p ∧ p ≤ (l.length : Int)) {k : Nat} (hk : (k : Int) ≤ (l.length : Int) + 1) (h : ∀ j : Nat, j < k → mayF l (p + s * j) = false) : (k : Int) ≤ (firstV l s p).2 := by
  rcases firstV_spec l hs hp with ⟨k', h1, h2, _⟩ | ⟨h1, _⟩
  · rw [h1]
    have : ¬ k' < k := fun hlt => by have := h k' hlt; rw [this] at h2; cases h2
    show (k : Int) ≤ (k' : Int)
    omega
  · rw [h1]
    exact hk
theorem firstV_at {l : List Tok} {s p : Int} (hs : s = 1 ∨ s = -1) (hp : 0 ≤ p ∧ p ≤ (l.length : Int)) {k : Nat} (h : ∀ j : Nat, j < k → mayF l (p + s * j) = false) (hm : mayF l (p + s * k) = true) : firstV l s p = (p + s * k, (k : Int)) := by
  rcases firstV_spec l hs hp with ⟨k', h1, h2, h3⟩ | ⟨_, h2⟩
  · have : ¬ k' < k := fun hlt => by have := h k' hlt; rw [this] at h2; cases h2
    have h4 : ¬ k < k' := fun hlt => by have := h3 k hlt; rw [this] at hm; cases hm
    obtain rfl : k = k' := by omega
    exact h1
  · have := h2 k
    rw [this] at hm
    cases hm
theorem near_right {l : List Tok} {p side : Int} (hp : 0 ≤ p ∧ p ≤ (l.length : Int)) {d : Nat} (h1 : ∀ j : Nat, j < d → mayF l (p + j) = false) (h2 : ∀ j : Nat, j < d → mayF l (p - j) = false) (hm : mayF l (p + d) = true) (hs : 0 ≤ side ∨ mayF l (p - d) = false) : nearV l p side = (p + d, 0) := by
  have hr := mayF_in hm
  have e1 : ∀ j : Nat, p + 1 * (j : Int) = p + j := fun j => by omega
  have e2 : ∀ j : Nat, p + -1 * (j : Int) = p - j := fun j => by omega
  have f1 : firstV l 1 p = (p + d, (d : Int)) := by
    have := firstV_at (s := 1) (.inl rfl) hp (k := d) (fun j hj => by rw [e1]; exact h1 j hj) (by rw [e1]; exact hm)
    rwa [e1] at this
  unfold nearV
  rw [f1]
  by_cases hd : mayF l (p - d) = false
  · have g := firstV_ge (s := -1) (.inr rfl) hp (k := d + 1) (by omega) (fun j hj => by
      rw [e2]
      by_cases he : j = d
      · rw [he]; exact hd
      · exact h2 j (by omega))
    have g2 : ((d + 1 : Nat) : Int) = (d : Int) + 1 := by omega
    rw [g2] at g
    rw [if_neg (by show ¬ min (firstV l (-1) p).2 (d : Int) > _; omega), if_neg (by show ¬ ((firstV l (-1) p).2 < (d : Int) ∨ (firstV l (-1) p).2 = (d : Int) ∧ side < 0); omega)]
  · have hsd : 0 ≤ side := by rcases hs with h | h; exact h; exact absurd h hd
    have g := firstV_ge (s := -1) (.inr rfl) hp (k := d) (by omega) (fun j hj => by rw [e2]; exact h2 j hj)
    rw [if_neg (by show ¬ min (firstV l (-1) p).2 (d : Int) > _; omega), if_neg (by show ¬ ((firstV l (-1) p).2 < (d : Int) ∨ (firstV l (-1) p).2 = (d : Int) ∧ side < 0); omega)]
theorem near_left {l : List Tok} {p side : Int} (hp : 0 ≤ p ∧ p ≤ (l.length : Int)) {d : Nat} (h1 : ∀ j : Nat, j < d → mayF l (p + j) = false) (h2 : ∀ j : Nat, j < d → mayF l (p - j) = false) (hm : mayF l (p - d) = true) (hs : side < 0 ∨ mayF l (p + d) = false) : nearV l p side = (p - d, 0) := by
  have hr := mayF_in hm
  have e1 : ∀ j : Nat, p + 1 * (j : Int) = p + j := fun j => by omega
  have e2 : ∀ j : Nat, p + -1 * (j : Int) = p - j := fun j => by omega
  have f1 : firstV l (-1) p = (p - d, (d : Int)) := by
    have := firstV_at (s := -1) (.inr rfl) hp (k := d) (fun j hj => by rw [e2]; exact h2 j hj) (by rw [e2]; exact hm)
    rwa [e2] at this
  unfold nearV
  rw [f1]
  by_cases hd : mayF l (p + d) = false
  · have g := firstV_ge (s := 1) (.inl rfl) hp (k := d + 1) (by omega) (fun j hj => by
      rw [e1]
      by_cases he : j = d
      · rw [he]; exact hd
      · exact h1 j (by omega))
    have g2 : ((d + 1 : Nat) : Int) = (d : Int) + 1 := by omega
    rw [g2] at g
    rw [if_neg (by show ¬ min (d : Int) (firstV l 1 p).2 > _; omega), if_pos (.inl (by show (d : Int) < (firstV l 1 p).2; omega))]
  · have hsd : side < 0 := by rcases hs with h | h; exact h; exact absurd h hd
    have g := firstV_ge (s := 1) (.inl rfl) hp (k := d) (by omega) (fun j hj => by rw [e1]; exact h1 j hj)
    rw [if_neg (by show ¬ min (d : Int) (firstV l 1 p).2 > _; omega), if_pos (by show (d : Int) < (firstV l 1 p).2 ∨ (d : Int) = (firstV l 1 p).2 ∧ side < 0; omega)]
theorem near_none {l : List Tok} {p side : Int} (hp : 0 ≤ p ∧ p ≤ (l.length : Int)) (h1 : ∀ j : Nat, j < l.length + 1 → mayF l (p + j) = false) (h2 : ∀ j : Nat, j < l.length + 1 → mayF l (p - j) = false) : nearV l p side = (0, 6) := by
  have g1 := firstV_ge (s := 1) (.inl rfl) hp (k := l.length + 1) (by omega) (fun j hj => by rw [show p + 1 * (j : Int) = p + j by omega]; exact h1 j hj)
  have g2 := firstV_ge (s := -1) (.inr rfl) hp (k := l.length + 1) (by omega) (fun j hj => by rw [show p + -1 * (j : Int) = p - j by omega]; exact h2 j hj)
  unfold nearV
  rw [if_pos (by show min (firstV l (-1) p).2 (firstV l 1 p).2 > _; omega)]
end Go.Proofs.YtofjodppljnlaaaGreatDoor
namespace Go.Proofs.YtofjodppljnlaaaGreatDoor
open Go.RowKit Go.Shelf
set_option linter.unusedVariables false
set_option linter.unusedSimpArgs false
attribute [local go_sem] Oper.semAt_some
/-- What a round keeps: all below n₀, and the iterator's own boxes. -/
def KpT (n₀ B : Nat) (W W' : World) : Prop := Upd (fun k => n₀ ≤ k ∧ (k < B ∨ B + 4 ≤ k)) W W'
theorem KpT.trans {n₀ B : Nat} {X Y Z : World} (h : KpT n₀ B X Y) (k : KpT n₀ B Y Z) : KpT n₀ B X Z := Upd.trans h k (fun _ _ h => h)
theorem pure_grown {w w1 : World} (h : Pure w w1) : w.grownBy w1 none := ⟨h.os, h.tape, h.output, h.size, fun k hk _ => h.block k hk (fun h => h)⟩
theorem grown_upd {w w1 : World} {row : Option Nat} (hg : w.grownBy w1 row) : Upd (fun k => row = some k) w w1 := Upd.grown1 hg (fun _ e => e)
/-- The iterator's boxes. -/
structure Boxes (W : World) (B cb : Nat) (A : Option Addr) (n c : Nat) (p s : Int) : Prop where
  b0 : W.heap[B]? = some (.cells #[.pointer (some ⟨cb, 0, none⟩)] 24 (0, 0))
  b1 : W.heap[B + 1]? = some (.cells #[.slice A n c] 22 (0, 0))
  b2 : W.heap[B + 2]? = some (.cells #[.int .i64 p] 3 (0, 0))
  b3 : W.heap[B + 3]? = some (.cells #[.int .i64 s] 3 (0, 0))
theorem Boxes.upd {W W' : World} {B cb : Nat} {A : Option Addr} {n c : Nat} {p s : Int} {S : Nat → Prop} (h : Boxes W B cb A n c p s) (hu : Upd S W W') (hs : ∀ k, B ≤ k → k < B + 4 → ¬ S k) : Boxes W' B cb A n c p s :=
  ⟨(hu.block _ (Array.getElem?_eq_some_iff.1 h.b0).1 (hs _ (by omega) (by omega))).trans h.b0, (hu.block _ (Array.getElem?_eq_some_iff.1 h.b1).1 (hs _ (by omega) (by omega))).trans h.b1, (hu.block _ (Array.getElem?_eq_some_iff.1 h.b2).1 (hs _ (by omega) (by omega))).trans h.b2, (hu.block _ (Array.getElem?_eq_some_iff.1 h.b3).1 (hs _ (by omega) (by omega))).trans h.b3⟩
theorem Boxes.cells {W : World} {B cb : Nat} {A : Option Addr} {n c : Nat} {p s : Int} (h : Boxes W B cb A n c p s) : W.cell? ⟨B, 0, none⟩ = some (.pointer (some ⟨cb, 0, none⟩)) ∧ W.cell? ⟨B + 1, 0, none⟩ = some (.slice A n c) ∧ W.cell? ⟨B + 2, 0, none⟩ = some (.int .i64 p) ∧ W.cell? ⟨B + 3, 0, none⟩ = some (.int .i64 s) := by
  refine ⟨?_, ?_, ?_, ?_⟩
  · unfold World.cell?; simp only [h.b0]; rfl
  · unfold World.cell?; simp only [h.b1]; rfl
  · unfold World.cell?; simp only [h.b2]; rfl
  · unfold World.cell?; simp only [h.b3]; rfl
set_option maxRecDepth 100000 in
set_option maxHeartbeats 4000000 in
theorem texts_calls (w : World) (cb : Nat) (A : Option Addr) (n c : Nat) (p s : Int) : Calls Tryz.prog 82 #[.pointer (some ⟨cb, 0, none⟩), .slice A n c, .int .i64 p, .int .i64 s] w fun r w' => r = .returned (.func (.func 138) #[] #[.pointer (some ⟨w.heap.size + 2, 0, none⟩), .pointer (some ⟨w.heap.size + 1, 0, none⟩), .pointer (some ⟨w.heap.size + 3, 0, none⟩), .pointer (some ⟨w.heap.size, 0, none⟩)]) ∧ Boxes w' w.heap.size cb A n c p s ∧ Pure w w' ∧ w'.heap.size = w.heap.size + 4 := by
  go_enter Tryz.func82, Tryz.ntmps82
  go_wp2
  go_ret
  refine ⟨rfl, ⟨?_, ?_, ?_, ?_⟩, (((Upd.alloc1 _ _ _).alloc _).alloc _).alloc _, by simp⟩
  · exact (Below.heap_alloc _ _ _ (by simp; try omega)).trans ((Below.heap_alloc _ _ _ (by simp; try omega)).trans ((Below.heap_alloc _ _ _ (by simp; try omega)).trans (heap_alloc_new w _)))
  · refine (Below.heap_alloc _ _ _ (by simp; try omega)).trans ((Below.heap_alloc _ _ _ (by simp; try omega)).trans ?_)
    have := heap_alloc_new (w.alloc (.cells #[.pointer (some ⟨cb, 0, none⟩)] 24)) (.cells #[.slice A n c] 22)
    simpa using this
  · refine (Below.heap_alloc _ _ _ (by simp; try omega)).trans ?_
    have := heap_alloc_new ((w.alloc (.cells #[.pointer (some ⟨cb, 0, none⟩)] 24)).alloc (.cells #[.slice A n c] 22)) (.cells #[.int .i64 p] 3)
    simpa using this
  · have := heap_alloc_new (((w.alloc (.cells #[.pointer (some ⟨cb, 0, none⟩)] 24)).alloc (.cells #[.slice A n c] 22)).alloc (.cells #[.int .i64 p] 3)) (.cells #[.int .i64 s] 3)
    simpa using this
set_option maxRecDepth 100000 in
set_option maxHeartbeats 4000000 in
theorem texts_stops (n : Nat) (hn : 1 ≤ n) {w0 w : World} {cb : Nat} {F : Nat → Prop} {A : Option Addr} {c : Nat} {l : List Tok} {p s : Int} {B : Nat} (h : SchR w0 cb houseRules houseGroups) (hr : tokR.row w0 F A l) (hb : l.length ≤ 200) (hlc : l.length ≤ c) (ok : (houseCheck l).2 = 0) (hs : s = 1 ∨ s = -1) (hp : -2 ≤ p ∧ p ≤ (l.length : Int) + 2) (hw : Pure w0 w) (hB : w0.heap.size ≤ B) (hx : Boxes w B cb A l.length c p s) :
    SeqStopsK Fence.wide n Tryz.prog 138 #[.pointer (some ⟨B + 2, 0, none⟩), .pointer (some ⟨B + 1, 0, none⟩), .pointer (some ⟨B + 3, 0, none⟩), .pointer (some ⟨B, 0, none⟩)] (fun x : Int => #[Value.int .i64 x]) (KpT w0.heap.size B) (fun ys => ys = places l s p) (fun pre => pre <+: places l s p) (places l s p).length w := fun lp J Jx W hW hJ hJx hY h0 => by
  have hWu : Pure w W := Upd.of_below hW
  have hx1 := hx.upd hWu (fun _ _ _ h => h)
  have hM := As.mk (fun (V : World) (hu : Pure w0 V) (q : Int) => may_text (h.pure hu) (Rp.row_pure hr hu) hb hlc ok q)
  have hE := enough_places l hs p
  have hpl : places l s p = plc l s (l.length + 2 + p.natAbs) p := rfl
  have hw0 := As.mk (hw.trans hWu (fun _ _ h => h))
  refine callsIn_of_wp Tryz.func138 rfl trivial ?_ rfl
  simp only [Tryz.ntmps138, List.size_toArray, List.length_cons, List.length_nil, Nat.reduceAdd, Nat.reduceSub, Array.replicate_succ, Array.replicate_zero, List.push_toArray, List.append_toArray, List.nil_append, List.cons_append]
  obtain ⟨k0, k1, k2, k3⟩ := hx1.cells
  gi_wp2
  gi_loopw [6] (fun i wr => ∃ (f : Nat) (q : Int) (pre : List Int), i = .int .i64 q ∧ -2 ≤ q ∧ q ≤ (l.length : Int) + 2 ∧ As (places l s p = pre ++ plc l s f q ∧ Enough l s f q) ∧ As (J pre wr) ∧ As (Boxes wr B cb A l.length c p s) ∧ As (Pure w0 wr))
    (fun i _ => if s = 1 then ((l.length : Int) + 5 - intOf i).toNat else (intOf i + 5).toNat)
  case atStart => exact ⟨_, p, [], rfl, by omega, by omega, ⟨hpl, hE⟩, ⟨h0⟩, ⟨hx1⟩, hw0⟩
  case round =>
    obtain ⟨f, q, pre, rfl, hq1, hq2, HP, HJ, HX, HU⟩ := hrel
    obtain ⟨k0, k1, k2, k3⟩ := HX.out.cells
    by_cases hq : 0 ≤ q ∧ q ≤ (l.length : Int)
    · obtain ⟨g, rfl⟩ := HP.out.2.pos hq
      have hpl2 := HP.out.1
      rw [plc, if_pos hq] at hpl2
      have hen := HP.out.2.next
      have u1 : decide (q ≥ 0) = true := by simpa using hq.1
      have u2 : decide (0 ≤ q) = true := by simpa using hq.1
      have u3 : decide (q ≤ (l.length : Int)) = true := by simpa using hq.2
      have hwr : IntKind.i64.wrap (q + s) = q + s := by
        apply IntWalk.i64_in
        rcases hs with rfl | rfl <;> omega
      have HS2 := As.mk hs
      have HM2 := As.mk (hM.out _ HU.out q)
      have HB2 := As.mk (And.intro hq.1 hq.2)
      cases hm : mayF l q
      · rw [hm] at hpl2 HM2
        simp only [Bool.false_eq_true, if_false] at hpl2
        have HPL := As.mk (And.intro hpl2 hen)
        clear hq hpl2 hen hm HP
        gi_wp2_with (refine ⟨trivial, ?_⟩; gi_at_call 19; refine (callsIn_wide.2 HM2.out).mono ?_; rintro e w1 ⟨rfl, hu⟩; have HU1 := As.mk hu; clear hu; apply As.out)
        refine ⟨?_⟩
        obtain ⟨m0, m1, m2, m3⟩ := (HX.out.upd HU1.out (fun _ _ _ h => h)).cells
        gi_wp2
        refine ⟨fun _ h => (by cases h), ?_⟩
        gi_wp2
        go_roundw
        case measure =>
          simp only [intOf]
          rcases HS2.out with rfl | rfl
          · simp; omega
          · simp; omega
        case rel => exact ⟨g, q + s, pre, rfl, by rcases HS2.out with rfl | rfl <;> have := HB2.out <;> omega, by rcases HS2.out with rfl | rfl <;> have := HB2.out <;> omega, HPL, ⟨hJ _ _ _ none HJ.out (pure_grown HU1.out) (fun _ e => by cases e)⟩, ⟨HX.out.upd HU1.out (fun _ _ _ h => h)⟩, ⟨HU.out.trans HU1.out (fun _ _ h => h)⟩⟩
      · rw [hm] at hpl2 HM2
        simp only [if_true] at hpl2
        have HPL := As.mk (And.intro (show places l s p = (pre ++ [q]) ++ plc l s g (q + s) by rw [hpl2]; simp) hen)
        have hlen : pre.length < (places l s p).length := by rw [hpl2]; simp
        clear hq hpl2 hen hm HP
        gi_wp2_with (refine ⟨trivial, ?_⟩; gi_at_call 19; refine (callsIn_wide.2 HM2.out).mono ?_; rintro e w1 ⟨rfl, hu⟩; have HU1 := As.mk hu; clear hu; apply As.out)
        refine ⟨?_⟩
        have hJ1 := hJ _ _ _ none HJ.out (pure_grown HU1.out) (fun _ e => by cases e)
        obtain ⟨fn, tmps, assign, body, hy, hR⟩ := hY pre q w1 hJ1 hlen
        gi_wp2
        refine hR.mono ?_
        rintro e W3 (⟨rfl, hJ3, hk3⟩ | ⟨rfl, hJx3⟩)
        · have HX3 := As.mk ((HX.out.upd HU1.out (fun _ _ _ h => h)).upd hk3 (fun k hk1 hk2 h => by omega))
          have HU3 := As.mk (Upd.trans (HU.out.trans HU1.out (fun _ _ h => h)) hk3 (fun k hk h => by omega) : Pure w0 W3)
          obtain ⟨m0, m1, m2, m3⟩ := HX3.out.cells
          gi_wp2
          go_roundw
          case measure =>
            simp only [intOf]
            rcases HS2.out with rfl | rfl
            · simp; omega
            · simp; omega
          case rel => exact ⟨g, q + s, pre ++ [q], rfl, by rcases HS2.out with rfl | rfl <;> have := HB2.out <;> omega, by rcases HS2.out with rfl | rfl <;> have := HB2.out <;> omega, HPL, ⟨hJ3⟩, HX3, HU3⟩
        · gi_wp2
          refine bodyPost_ret (results_none rfl _ _ _) rfl ?_
          exact ⟨⟨_, rfl⟩, .inr ⟨pre ++ [q], ⟨_, HPL.out.1.symm⟩, hJx3⟩⟩
    · have hfin : plc l s f q = [] := by
        cases f with
        | zero => rfl
        | succ f => rw [plc, if_neg hq]
      have hpl2 := HP.out.1
      rw [hfin, List.append_nil] at hpl2
      have HPL := As.mk hpl2
      clear hpl2 hfin HP
      cases b1 : decide (0 ≤ q)
      · have u1 : decide (q ≥ 0) = false := b1
        gi_wp2
        go_end0
        exact ⟨⟨_, rfl⟩, .inl ⟨_, HPL.out.symm, HJ.out⟩⟩
      · have u1 : decide (q ≥ 0) = true := b1
        have u2 : decide (q ≤ (l.length : Int)) = false := by
          have := of_decide_eq_true b1
          rw [decide_eq_false_iff_not]; omega
        gi_wp2
        go_end0
        exact ⟨⟨_, rfl⟩, .inl ⟨_, HPL.out.symm, HJ.out⟩⟩
end Go.Proofs.YtofjodppljnlaaaGreatDoor
namespace Go.Proofs.YtofjodppljnlaaaGreatDoor
open Go.RowKit Go.Shelf
set_option linter.unusedVariables false
set_option linter.unusedSimpArgs false
attribute [local go_sem] Oper.semAt_some
theorem plc_may (l : List Tok) (s : Int) : ∀ (f : Nat) (p x : Int), x ∈ plc l s f p → mayF l x = true := by
  intro f
  induction f with
  | zero => intro p x h; cases h
  | succ f ih =>
    intro p x h
    rw [plc] at h
    split at h
    · split at h
      · rename_i hm
        rcases List.mem_cons.1 h with rfl | h
        · exact hm
        · exact ih _ _ h
      · exact ih _ _ h
    · cases h
theorem two_sets {w W : World} {k1 k2 : Nat} {u1 u2 : Value} (v1 v2 : Value) (h1 : W.cell? ⟨k1, 0, none⟩ = some u1) (h2 : W.cell? ⟨k2, 0, none⟩ = some u2) (hne : k1 ≠ k2) (hB : Below w.heap.size w W) (g1 : w.heap.size ≤ k1) (g2 : w.heap.size ≤ k2) :
    KeepsOthers W ((W.setCell ⟨k1, 0, none⟩ v1).setCell ⟨k2, 0, none⟩ v2) ∧ ((W.setCell ⟨k1, 0, none⟩ v1).setCell ⟨k2, 0, none⟩ v2).cell? ⟨k1, 0, none⟩ = some v1 ∧ ((W.setCell ⟨k1, 0, none⟩ v1).setCell ⟨k2, 0, none⟩ v2).cell? ⟨k2, 0, none⟩ = some v2 ∧ Below w.heap.size w ((W.setCell ⟨k1, 0, none⟩ v1).setCell ⟨k2, 0, none⟩ v2) := by
  have hu1 := Upd.setCell1 (S := fun k => k = k1) W (p := ⟨k1, 0, none⟩) rfl v1
  have hu2 := Upd.setCell1 (S := fun k => k = k2) (W.setCell ⟨k1, 0, none⟩ v1) (p := ⟨k2, 0, none⟩) rfl v2
  have hlt : ∀ {V : World} {k : Nat} {u : Value}, V.cell? ⟨k, 0, none⟩ = some u → k < V.heap.size := fun {V k u} h => by
    rcases Nat.lt_or_ge k V.heap.size with h9 | h9
    · exact h9
    · unfold World.cell? at h
      rw [Array.getElem?_eq_none h9] at h
      cases h
  have l1 := hlt h1
  have l2 := hlt h2
  have c1 : (W.setCell ⟨k1, 0, none⟩ v1).cell? ⟨k1, 0, none⟩ = some v1 := World.cell?_setCell_same' W _ v1 (by rw [h1]; rfl)
  have c2 : (W.setCell ⟨k1, 0, none⟩ v1).cell? ⟨k2, 0, none⟩ = some u2 := (hu1.cell l2 (fun e => hne e.symm)).trans h2
  refine ⟨(KeepsOthers.setCell W _ _).trans (KeepsOthers.setCell _ _ _), ?_, ?_, ((hB.setCell (p := ⟨k1, 0, none⟩) g1 _).setCell (p := ⟨k2, 0, none⟩) g2 _)⟩
  · show ((W.setCell ⟨k1, 0, none⟩ v1).setCell ⟨k2, 0, none⟩ v2).cell? _ = _
    exact (hu2.cell (Nat.lt_of_lt_of_le l1 hu1.size) hne).trans c1
  · show ((W.setCell ⟨k1, 0, none⟩ v1).setCell ⟨k2, 0, none⟩ v2).cell? _ = _
    exact World.cell?_setCell_same' _ _ v2 (by rw [c2]; rfl)
set_option maxRecDepth 100000 in
set_option maxHeartbeats 4000000 in
theorem first_calls {w : World} {cb : Nat} {F : Nat → Prop} {A : Option Addr} {c : Nat} {l : List Tok} {p s : Int} (h : SchR w cb houseRules houseGroups) (hr : tokR.row w F A l) (hb : l.length ≤ 200) (hlc : l.length ≤ c) (ok : (houseCheck l).2 = 0) (hs : s = 1 ∨ s = -1) (hp : 0 ≤ p ∧ p ≤ (l.length : Int)) :
    Calls Tryz.prog 81 #[.pointer (some ⟨cb, 0, none⟩), .slice A l.length c, .int .i64 p, .int .i64 s] w fun r w' => r = .returned (.tuple #[.int .i64 (firstV l s p).1, .int .i64 (firstV l s p).2]) ∧ Pure w w' := by
  have hTC := fun (W : World) => texts_calls W cb A l.length c p s
  refine (callsIn_wide (n := 6)).1 ?_
  refine callsIn_of_wp_marks Tryz.func81 rfl trivial ?_ rfl
  simp only [Tryz.ntmps81, List.size_toArray, List.length_cons, List.length_nil, Nat.reduceAdd, Nat.reduceSub, Array.replicate_succ, Array.replicate_zero, List.push_toArray, List.append_toArray, List.nil_append, List.cons_append]
  gi_wp2_with (refine ⟨trivial, ?_⟩; gi_at_call 82; refine (callsIn_wide.2 (hTC _)).mono ?_; rintro e w2 ⟨rfl, hx, hu, hsz⟩; have HX := As.mk hx; have HU := As.mk hu; have HSZ := As.mk hsz; clear hx hu hsz)
  have hz2 : w2.heap.size = w.heap.size + 1 + 1 + 1 + 1 + 4 := by rw [HSZ.out]; simp
  have hB0 : Below w.heap.size w ((((w.alloc (.cells #[.int .i64 p] 3)).alloc (.cells #[.int .i64 s] 3)).alloc (.cells #[.int .i64 0] 3)).alloc (.cells #[.int .i64 0] 3)) := ((((Below.refl _ w).alloc (Nat.le_refl _) _).alloc (by simp) _).alloc (by simp; omega) _).alloc (by simp; omega) _
  have hPw : Pure w w2 := (Upd.of_below hB0).trans HU.out (fun _ _ h => h)
  have hbk : ∀ (k : Nat) (o : Obj), k < w.heap.size + 1 + 1 + 1 + 1 → ((((w.alloc (.cells #[.int .i64 p] 3)).alloc (.cells #[.int .i64 s] 3)).alloc (.cells #[.int .i64 0] 3)).alloc (.cells #[.int .i64 0] 3)).heap[k]? = some o → w2.heap[k]? = some o := fun k o hk h => (HU.out.block k (by simp; omega) (fun h => h)).trans h
  have bk0 : w2.heap[w.heap.size]? = some (.cells #[.int .i64 p] 3 (0, 0)) := hbk _ _ (by omega) ((Below.heap_alloc _ _ _ (by simp; try omega)).trans ((Below.heap_alloc _ _ _ (by simp; try omega)).trans ((Below.heap_alloc _ _ _ (by simp; try omega)).trans (heap_alloc_new w _))))
  have bk1 : w2.heap[w.heap.size + 1]? = some (.cells #[.int .i64 s] 3 (0, 0)) := hbk _ _ (by omega) (by
    refine (Below.heap_alloc _ _ _ (by simp; try omega)).trans ((Below.heap_alloc _ _ _ (by simp; try omega)).trans ?_)
    have := heap_alloc_new (w.alloc (.cells #[.int .i64 p] 3)) (.cells #[.int .i64 s] 3)
    simpa using this)
  have bk2 : w2.heap[w.heap.size + 1 + 1]? = some (.cells #[.int .i64 0] 3 (0, 0)) := hbk _ _ (by omega) (by
    refine (Below.heap_alloc _ _ _ (by simp; try omega)).trans ?_
    have := heap_alloc_new ((w.alloc (.cells #[.int .i64 p] 3)).alloc (.cells #[.int .i64 s] 3)) (.cells #[.int .i64 0] 3)
    simpa using this)
  have bk3 : w2.heap[w.heap.size + 1 + 1 + 1]? = some (.cells #[.int .i64 0] 3 (0, 0)) := hbk _ _ (by omega) (by
    have := heap_alloc_new (((w.alloc (.cells #[.int .i64 p] 3)).alloc (.cells #[.int .i64 s] 3)).alloc (.cells #[.int .i64 0] 3)) (.cells #[.int .i64 0] 3)
    simpa using this)
  have cel : ∀ {k : Nat} {v : Value}, w2.heap[k]? = some (.cells #[v] 3 (0, 0)) → w2.cell? ⟨k, 0, none⟩ = some v ∧ w2.frozen? ⟨k, 0, none⟩ = false := fun {k v} hk => ⟨by unfold World.cell?; simp only [hk]; rfl, by simp [World.frozen?, hk]⟩
  have hBel : Below w.heap.size w w2 := hPw.below
  have hlen := hb
  refine wpIn_rangeFunc_ownF rfl (by omega) (gf := 138) (lb := #[.pointer (some ⟨w.heap.size + 1 + 1 + 1 + 1 + 2, 0, none⟩), .pointer (some ⟨w.heap.size + 1 + 1 + 1 + 1 + 1, 0, none⟩), .pointer (some ⟨w.heap.size + 1 + 1 + 1 + 1 + 3, 0, none⟩), .pointer (some ⟨w.heap.size + 1 + 1 + 1 + 1, 0, none⟩)]) rfl trivial (enters_of Tryz.func138 (by kernel_rfl) rfl)
    (texts_stops 5 (by omega) (w0 := w) (w := w2) (p := p) (s := s) (B := w.heap.size + 1 + 1 + 1 + 1) h hr hb hlc ok hs (by omega) hPw (by omega) (by simpa using HX.out)) KpT.trans
    (fun W l0 o o' hl _ _ _ => (grown_upd (grownBy_putObj' W l0 o')).mono (fun k _ e => by injection e with e; omega)) (Below.refl _ _) (fun _ => rfl)
    (fun pre W => (pre = [] ∧ W.cell? ⟨w.heap.size, 0, none⟩ = some (.int .i64 p) ∧ W.cell? ⟨w.heap.size + 1, 0, none⟩ = some (.int .i64 s) ∧ W.cell? ⟨w.heap.size + 1 + 1, 0, none⟩ = some (.int .i64 0) ∧ W.frozen? ⟨w.heap.size + 1 + 1, 0, none⟩ = false ∧ W.cell? ⟨w.heap.size + 1 + 1 + 1, 0, none⟩ = some (.int .i64 0) ∧ W.frozen? ⟨w.heap.size + 1 + 1 + 1, 0, none⟩ = false) ∧ Below w.heap.size w W)
    (fun cc pre W => (cc = .ret ∧ ∃ x, pre = [x] ∧ W.cell? ⟨w.heap.size + 1 + 1, 0, none⟩ = some (.int .i64 x) ∧ W.cell? ⟨w.heap.size + 1 + 1 + 1, 0, none⟩ = some (.int .i64 (IntKind.i64.wrap (IntKind.i64.wrap (x - p) * s)))) ∧ Below w.heap.size w W)
    (OwnFrom.and (Own.from (fun pre X Y row hh hg hrw => ⟨hh.1, cell_kept hh.2.1 hg hrw, cell_kept hh.2.2.1 hg hrw, cell_kept hh.2.2.2.1 hg hrw, (frozen_kept hh.2.2.2.1 hg hrw).trans hh.2.2.2.2.1, cell_kept hh.2.2.2.2.2.1 hg hrw, (frozen_kept hh.2.2.2.2.2.1 hg hrw).trans hh.2.2.2.2.2.2⟩) _) (ownFrom_below (Nat.le_refl _) (by omega)))
    (fun cc => OwnFrom.and (Own.from (fun pre X Y row hh hg hrw => by obtain ⟨h1, x, h2, h3, h4⟩ := hh; exact ⟨h1, x, h2, cell_kept h3 hg hrw, cell_kept h4 hg hrw⟩) _) (ownFrom_below (Nat.le_refl _) (by omega)))
    ⟨⟨rfl, (cel bk0).1, (cel bk1).1, (cel bk2).1, (cel bk2).2, (cel bk3).1, (cel bk3).2⟩, hBel⟩
    (fun x => { tmps := #[.pointer (some ⟨cb, 0, none⟩), .slice A l.length c, .int .i64 p, .int .i64 s, undef, undef, .pointer (some ⟨w.heap.size, 0, none⟩), .pointer (some ⟨w.heap.size + 1, 0, none⟩), .pointer (some ⟨w.heap.size + 1 + 1, 0, none⟩), .pointer (some ⟨w.heap.size + 1 + 1 + 1, 0, none⟩), .int .i64 x, .pointer (some ⟨cb, 0, none⟩), .slice A l.length c, .int .i64 p, .int .i64 s, .func (.func 138) #[] #[.pointer (some ⟨w.heap.size + 1 + 1 + 1 + 1 + 2, 0, none⟩), .pointer (some ⟨w.heap.size + 1 + 1 + 1 + 1 + 1, 0, none⟩), .pointer (some ⟨w.heap.size + 1 + 1 + 1 + 1 + 3, 0, none⟩), .pointer (some ⟨w.heap.size + 1 + 1 + 1 + 1, 0, none⟩)], .int .i64 x, undef, undef, undef, undef, undef, undef, undef, undef, undef], defers := [] }) ?assign ?body ?done ?stop
  case assign =>
    intro lp x W K hK
    gi_wp2
    exact hK
  case body =>
    rintro lp pre x W ⟨⟨rfl, q0, q1, q2, q3, q4, q5⟩, hB⟩ _
    gi_wp2
    have h2 := As.mk (two_sets (.int .i64 x) (.int .i64 (IntKind.i64.wrap (IntKind.i64.wrap (x - p) * s))) q2 q4 (by omega) hB (by omega) (by omega))
    clear HX HU hTC h hr bk0 bk1 bk2 bk3
    gi_region
    all_goals gi_wp2
    all_goals exact ⟨h2.out.1.trans (KeepsOthers.drew _), ⟨rfl, x, rfl, h2.out.2.1, h2.out.2.2.1⟩, h2.out.2.2.2.drew⟩
  case done =>
    rintro D ys W hD rfl ⟨⟨hnil, q0, q1, q2, q3, q4, q5⟩, hB⟩ hK
    have hfv : firstV l s p = (0, (l.length : Int) + 1) := by unfold firstV; rw [hnil]
    have hwl : IntKind.i64.wrap ((l.length : Int) + 1) = (l.length : Int) + 1 := IntWalk.i64_in _ (by omega)
    gi_wp2
    have h2 := two_sets (.int .i64 0) (.int .i64 ((l.length : Int) + 1)) q2 q4 (by omega) hB (by omega) (by omega)
    have hK' := h2.1.same D _ hK rfl
    refine ⟨by simp, .inl ⟨_, _, rfl, run_takeDeferred hK', ?_⟩⟩
    have hc8 := cell_kept h2.2.1 (grownBy_putObj' _ D (.deferred none)) (fun r e => by cases e; exact ⟨_, hK', rfl⟩)
    have hc9 := cell_kept h2.2.2.1 (grownBy_putObj' _ D (.deferred none)) (fun r e => by cases e; exact ⟨_, hK', rfl⟩)
    refine ⟨.tuple #[.int .i64 0, .int .i64 ((l.length : Int) + 1)], ?_, by rw [hfv], Upd.of_below (h2.2.2.2.trans (belowK_b (w := w) (Nat.le_refl _) _ D _ _ (by omega) hK' rfl rfl))⟩
    simp [results, Tryz.f81, go_sem, hc8, hc9]
  case stop =>
    rintro D cc pre W hD hpre ⟨⟨rfl, x, rfl, q2, q4⟩, hB⟩ hK
    obtain ⟨rest, hrest⟩ := hpre
    have hpl : places l s p = x :: rest := hrest.symm
    have hfv : firstV l s p = (x, (x - p) * s) := by unfold firstV; rw [hpl]
    have hxr : 0 ≤ x ∧ x ≤ (l.length : Int) := by
      have hm : x ∈ places l s p := by rw [hpl]; simp
      exact mayF_in (plc_may l s _ _ x hm)
    have hw1 : IntKind.i64.wrap (x - p) = x - p := IntWalk.i64_in _ (by omega)
    have hw2 : IntKind.i64.wrap ((x - p) * s) = (x - p) * s := by
      apply IntWalk.i64_in
      rcases hs with rfl | rfl <;> omega
    rw [hw1, hw2] at q4
    gi_wp2
    refine ⟨by simp, .inl ⟨_, _, rfl, run_takeDeferred hK, ?_⟩⟩
    have hc8 := cell_kept q2 (grownBy_putObj' _ D (.deferred none)) (fun r e => by cases e; exact ⟨_, hK, rfl⟩)
    have hc9 := cell_kept q4 (grownBy_putObj' _ D (.deferred none)) (fun r e => by cases e; exact ⟨_, hK, rfl⟩)
    refine ⟨.tuple #[.int .i64 x, .int .i64 ((x - p) * s)], ?_, by rw [hfv], Upd.of_below (hB.trans (belowK_b (w := w) (Nat.le_refl _) _ D _ _ (by omega) hK rfl rfl))⟩
    simp [results, Tryz.f81, go_sem, hc8, hc9]
end Go.Proofs.YtofjodppljnlaaaGreatDoor
namespace Go.Proofs.YtofjodppljnlaaaGreatDoor
open Go.RowKit
set_option linter.unusedVariables false
set_option linter.unusedSimpArgs false
def nearR (l : List Tok) (p side : Int) : Int × Int := if cmayV l p ≠ 0 then (0, cmayV l p) else nearV l p side
def nearB (b1 b2 b3 b4 : Bool) (x y : Int) : Int × Int := if b1 = true then (0, 6) else if (b2 || (b3 && b4)) = true then (x, 0) else (y, 0)
set_option maxRecDepth 100000 in
set_option maxHeartbeats 4000000 in
theorem near_calls {w : World} {cb : Nat} {F : Nat → Prop} {A : Option Addr} {c : Nat} {l : List Tok} {p side : Int} (h : SchR w cb houseRules houseGroups) (hr : tokR.row w F A l) (hb : l.length ≤ 200) (hlc : l.length ≤ c) :
    Calls Tryz.prog 24 #[.pointer (some ⟨cb, 0, none⟩), .slice A l.length c, .int .i64 p, .int .i64 side] w fun r w' => r = .returned (.tuple #[.int .i64 (nearR l p side).1, .int .i64 (nearR l p side).2]) ∧ Pure w w' := by
  have HM := As.mk (cmay_calls (c := c) (p := p) h hr hb)
  by_cases h0 : cmayV l p = 0
  · obtain ⟨ok, hp⟩ := cmay_zero h0
    have HF := As.mk (fun (W : World) (hu : Pure w W) (s : Int) (hs : s = 1 ∨ s = -1) => first_calls (h.pure hu) (Rp.row_pure hr hu) hb hlc ok hs hp)
    rw [h0] at HM
    have HV := As.mk (show nearR l p side = nearB (decide (min (firstV l (-1) p).2 (firstV l 1 p).2 > (l.length : Int))) (decide ((firstV l (-1) p).2 < (firstV l 1 p).2)) (decide ((firstV l (-1) p).2 = (firstV l 1 p).2)) (decide (side < 0)) (firstV l (-1) p).1 (firstV l 1 p).1 by
      unfold nearR nearV nearB
      rw [if_neg (by omega)]
      simp only [decide_eq_true_eq, Bool.or_eq_true, Bool.and_eq_true])
    have HFL := As.mk (fun (W : World) (hu : Pure w W) => HF.out W hu (-1) (.inr rfl))
    have HFR := As.mk (fun (W : World) (hu : Pure w W) => HF.out W hu 1 (.inl rfl))
    clear h hr h0 HF ok hp
    generalize firstV l (-1) p = x at *
    generalize firstV l 1 p = y at *
    obtain ⟨x1, x2⟩ := x
    obtain ⟨y1, y2⟩ := y
    simp only at HV HFL HFR
    generalize nearR l p side = rr at *
    obtain ⟨r1, r2⟩ := rr
    cases b1 : decide (min x2 y2 > (l.length : Int)) <;> cases b2 : decide (x2 < y2) <;> cases b3 : decide (x2 = y2) <;> cases b4 : decide (side < 0)
    all_goals
      rw [b1, b2, b3, b4] at HV
      have HV2 := As.mk (show (r1, r2) = _ from HV.out)
      clear HV
      have c1 : decide ((l.length : Int) < min x2 y2) = decide (min x2 y2 > (l.length : Int)) := rfl
      rw [b1] at c1
      have c3 : (x2 == y2) = decide (x2 = y2) := rfl
      rw [b3] at c3
      go_enter Tryz.func24, Tryz.ntmps24
      go_wp2_with (first | (go_at_call 81; refine (HFR.out w2 HU2.out).mono ?_; rintro r w3 ⟨rfl, hu⟩; have HU3 := As.mk (HU2.out.trans hu (fun _ _ h => h)); clear hu) | (go_at_call 81; refine (HFL.out w1 HU1.out).mono ?_; rintro r w2 ⟨rfl, hu⟩; have HU2 := As.mk (HU1.out.trans hu (fun _ _ h => h)); clear hu) | (go_at_call 79; refine HM.out.mono ?_; rintro r w1 ⟨rfl, hu⟩; have HU1 := As.mk hu; clear hu))
      refine bodyPost_ret (by simp [results, Tryz.results24, go_sem]; rfl) rfl ⟨?_, HU3.out⟩
      rw [show r1 = _ from congrArg Prod.fst HV2.out, show r2 = _ from congrArg Prod.snd HV2.out]
      rfl
  · have hv : nearR l p side = (0, cmayV l p) := by unfold nearR; rw [if_pos h0]
    rw [hv]
    have c1 : (cmayV l p != 0) = true := by simpa using h0
    clear h hr h0 hv
    generalize cmayV l p = cv at *
    go_enter Tryz.func24, Tryz.ntmps24
    go_wp2_with (go_at_call 79; refine HM.out.mono ?_; rintro r w1 ⟨rfl, hu⟩; have HU1 := As.mk hu; clear hu)
    exact bodyPost_ret (v := .tuple #[.int .i64 0, .int .i64 cv]) (by simp [results, Tryz.results24, go_sem]) rfl ⟨rfl, HU1.out⟩
theorem near_doc : nearR awakeDoc 0 1 = (1, 0) := by kernel_rfl
set_option maxRecDepth 100000 in
set_option maxHeartbeats 4000000 in
theorem awake11_calls (w : World) : Calls Tryz.prog 21 #[] w fun r w' => r = .returned (.bool true) ∧ Pure w w' := by
  have HH := As.mk (fun W => House_calls W)
  have HC1 := As.mk (fun (W : World) (cb : Nat) (hs : SchR W cb houseRules houseGroups) => (by
    have hp : Pure W (W.alloc (.cells #[.int .i64 1, .int .i64 1, .int .i64 0, .int .i64 0, .int .i64 2, .int .i64 0, .int .i64 0, .int .i64 0] 71)) := Upd.alloc1 _ _ _
    have h1 := near_calls (c := 2) (l := awakeDoc) (p := 0) (side := 1) (hs.pure hp) (row_toks (F := fun _ => True) (heap_alloc_new W _) trivial) (by decide) (by decide)
    rw [near_doc] at h1
    exact h1.mono fun r w' h => ⟨h.1, hp.trans h.2 (fun _ _ h => h)⟩ :
    Calls Tryz.prog 24 #[.pointer (some ⟨cb, 0, none⟩), .slice (some ⟨W.heap.size, 0, none⟩) 2 2, .int .i64 0, .int .i64 1] (W.alloc (.cells #[.int .i64 1, .int .i64 1, .int .i64 0, .int .i64 0, .int .i64 2, .int .i64 0, .int .i64 0, .int .i64 0] 71)) fun e w' => e = .returned (.tuple #[.int .i64 1, .int .i64 0]) ∧ Pure W w'))
  go_enter Tryz.func21, Tryz.ntmps21
  go_wp2_with (first | (go_at_call 24; refine (HC1.out _ _ HS1.out).mono ?_; rintro r w2 ⟨rfl, hu⟩; have HU2 := As.mk (HU1.out.trans hu (fun _ _ h => h)); clear hu) | (go_at_call 13; refine (HH.out w).mono ?_; rintro r w1 ⟨cb1, rfl, hs, hu⟩; have HS1 := As.mk hs; have HU1 := As.mk hu; clear hu hs))
  go_ret
  exact ⟨rfl, HU2.out⟩
end Go.Proofs.YtofjodppljnlaaaGreatDoor
namespace Go.Proofs.YtofjodppljnlaaaGreatDoor
open Go.RowKit
set_option linter.unusedVariables false
set_option linter.unusedSimpArgs false
set_option maxRecDepth 100000 in
set_option maxHeartbeats 4000000 in
theorem Near11_pos {w : World} {cb : Nat} {F : Nat → Prop} {A : Option Addr} {c : Nat} {l : List Tok} {p side : Int} (h : H6 w cb) (hr : tokR.row w F A l) (hb : l.length ≤ 200) (hlc : l.length ≤ c) (h0 : cmayV l p = 0) (hs : 0 ≤ side) :
    Calls Tryz.prog 25 #[.pointer (some ⟨cb, 0, none⟩), .slice A l.length c, .int .i64 p, .int .i64 side] w fun r w' => r = .returned (.tuple #[.int .i64 (nearV l p side).1, .int .i64 (nearV l p side).2]) ∧ Pure w w' := by
  have HMY := As.mk (may11_calls (c := c) (p := p) h hr (by omega) hlc)
  rw [h0] at HMY
  obtain ⟨ok, hp⟩ := cmay_zero h0
  have HM := As.mk (fun W (hu : Pure w W) q => May6_text (c := c) (h.pure hu) (Rp.row_pure hr hu) hb hlc ok q)
  have HPP := As.mk hp
  have HEND := As.mk (fun h1 h2 => near_none (side := side) hp h1 h2)
  have HIN := As.mk (fun q (h : mayF l q = true) => mayF_in h)
  have s1 : decide (side ≥ 0) = true := decide_eq_true (by omega)
  have s2 : decide (0 ≤ side) = true := decide_eq_true (by omega)
  have hp1 := hp.1
  have hp2 := hp.2
  have HSD := As.mk hs
  clear h hr h0 ok hp hs
  go_enter Tryz.func25, Tryz.ntmps25
  go_wp2_with (go_at_call 80; refine HMY.out.mono ?_; rintro r w1 ⟨rfl, hu⟩; have HU1 := As.mk hu; clear hu)
  go_loopg [11, 12, 13] (l.length + 1) (fun gg dv av bv wr => ∃ d : Nat, d + gg = l.length + 1 ∧ dv = .int .i64 d ∧ As (∀ j : Nat, j < d → mayF l (p + j) = false) ∧ As (∀ j : Nat, j < d → mayF l (p - j) = false) ∧ As (Pure w wr))
  case atStart => exact ⟨0, by omega, rfl, ⟨fun j hj => by omega⟩, ⟨fun j hj => by omega⟩, HU1⟩
  case round =>
    clear HU1
    obtain ⟨d, hd, rfl, HJ1, HJ2, HP⟩ := hrel
    by_cases hlt : d ≤ l.length
    · obtain ⟨g1, rfl⟩ : ∃ m, gk = m + 1 := ⟨gk - 1, by omega⟩
      have hdl : decide ((d : Int) ≤ (l.length : Int)) = true := decide_eq_true (by omega)
      have hw1 : IntKind.i64.wrap (p - (d : Int)) = p - (d : Int) := IntWalk.i64_in _ (by omega)
      have hw2 : IntKind.i64.wrap (p + (d : Int)) = p + (d : Int) := IntWalk.i64_in _ (by omega)
      have hw3 : IntKind.i64.wrap ((d : Int) + 1) = (d : Int) + 1 := IntWalk.i64_in _ (by omega)
      have u1 : decide (p + (d : Int) ≥ 0) = true := decide_eq_true (by omega)
      have u2 : decide (0 ≤ p + (d : Int)) = true := decide_eq_true (by omega)
      have u3 : decide (p - (d : Int) ≤ (l.length : Int)) = true := decide_eq_true (by omega)
      have HMR := As.mk (fun W (hu : Pure w W) => HM.out W hu (p + (d : Int)))
      have HML := As.mk (fun W (hu : Pure w W) => HM.out W hu (p - (d : Int)))
      have HRI := As.mk (HIN.out (p + (d : Int)))
      have HLI := As.mk (HIN.out (p - (d : Int)))
      have HK := As.mk hd
      have HV1 := As.mk (fun (hm : mayF l (p + (d : Int)) = true) => near_right (side := side) HPP.out HJ1.out HJ2.out hm (.inl HSD.out))
      have HV2 := As.mk (fun (h1 : mayF l (p + (d : Int)) = false) (hm : mayF l (p - (d : Int)) = true) => near_left (side := side) HPP.out HJ1.out HJ2.out hm (.inr h1))
      clear hd
      cases m1 : mayF l (p + (d : Int)) <;> cases m2 : mayF l (p - (d : Int)) <;> cases c2 : decide (p + (d : Int) ≤ (l.length : Int)) <;> cases c1 : decide ((d : Int) ≤ p)
      all_goals rw [m1] at HMR HRI
      all_goals rw [m2] at HML HLI
      all_goals first
        | (exfalso; have h9 := (HRI.out rfl).2; have h8 := of_decide_eq_false c2; exact h8 h9)
        | (exfalso; have h9 := (HLI.out rfl).1; have h8 := of_decide_eq_false c1; exact h8 (by omega))
        | skip
      all_goals
        have c3 : decide (p - (d : Int) ≥ 0) = decide ((d : Int) ≤ p) := by rw [Bool.eq_iff_iff, decide_eq_true_eq, decide_eq_true_eq]; omega
        have c4 : decide (0 ≤ p - (d : Int)) = decide ((d : Int) ≤ p) := c3
        rw [c1] at c3 c4
        have HM1 := As.mk m1
        have HM2 := As.mk m2
        clear m1 m2
        go_wp2_with (go_at_call 20; first | (with_reducible refine (HML.out _ HU2.out).mono ?_; rintro r w3 ⟨rfl, hu⟩; have HU3 := As.mk (HU2.out.trans hu (fun _ _ h => h)); clear hu) | (with_reducible refine (HMR.out _ HP.out).mono ?_; rintro r w2 ⟨rfl, hu⟩; have HU2 := As.mk (HP.out.trans hu (fun _ _ h => h)); clear hu) | (with_reducible refine (HML.out _ HP.out).mono ?_; rintro r w3 ⟨rfl, hu⟩; have HU3 := As.mk (HP.out.trans hu (fun _ _ h => h)); clear hu))
        first
          | (refine bodyPost_ret (results_tmp2 rfl _ _ _) rfl ?_
             first
               | exact ⟨by rw [HV1.out HM1.out]; rfl, by first | exact HU3.out | exact HU2.out | exact HP.out⟩
               | exact ⟨by rw [HV2.out HM1.out HM2.out]; rfl, by first | exact HU3.out | exact HU2.out | exact HP.out⟩)
          | skip
      all_goals
        go_roundg g1
        case measure => omega
        case rel =>
               exact ⟨d + 1, by have := HK.out; omega, by go_num, ⟨fun j hj => by
                 by_cases he : j = d
                 · rw [he]; exact HM1.out
                 · exact HJ1.out j (by omega)⟩, ⟨fun j hj => by
                 by_cases he : j = d
                 · rw [he]; exact HM2.out
                 · exact HJ2.out j (by omega)⟩, by first | exact HU3 | exact HU2 | exact HP⟩
    · obtain rfl : d = l.length + 1 := by omega
      have hdl : decide (((l.length + 1 : Nat) : Int) ≤ (l.length : Int)) = false := decide_eq_false (by omega)
      have hdm : decide ((l.length : Int) + 1 ≤ (l.length : Int)) = false := decide_eq_false (by omega)
      have HE := As.mk (HEND.out HJ1.out HJ2.out)
      clear HJ1 HJ2
      go_wp2
      exact bodyPost_ret (results_tmp2 rfl _ _ _) rfl ⟨by rw [HE.out]; rfl, HP.out⟩
set_option maxRecDepth 100000 in
set_option maxHeartbeats 4000000 in
theorem Near11_neg {w : World} {cb : Nat} {F : Nat → Prop} {A : Option Addr} {c : Nat} {l : List Tok} {p side : Int} (h : H6 w cb) (hr : tokR.row w F A l) (hb : l.length ≤ 200) (hlc : l.length ≤ c) (h0 : cmayV l p = 0) (hs : side < 0) :
    Calls Tryz.prog 25 #[.pointer (some ⟨cb, 0, none⟩), .slice A l.length c, .int .i64 p, .int .i64 side] w fun r w' => r = .returned (.tuple #[.int .i64 (nearV l p side).1, .int .i64 (nearV l p side).2]) ∧ Pure w w' := by
  have HMY := As.mk (may11_calls (c := c) (p := p) h hr (by omega) hlc)
  rw [h0] at HMY
  obtain ⟨ok, hp⟩ := cmay_zero h0
  have HM := As.mk (fun W (hu : Pure w W) q => May6_text (c := c) (h.pure hu) (Rp.row_pure hr hu) hb hlc ok q)
  have HPP := As.mk hp
  have HEND := As.mk (fun h1 h2 => near_none (side := side) hp h1 h2)
  have HIN := As.mk (fun q (h : mayF l q = true) => mayF_in h)
  have s1 : decide (side ≥ 0) = false := decide_eq_false (by omega)
  have s2 : decide (0 ≤ side) = false := decide_eq_false (by omega)
  have hp1 := hp.1
  have hp2 := hp.2
  have HSD := As.mk hs
  clear h hr h0 ok hp hs
  go_enter Tryz.func25, Tryz.ntmps25
  go_wp2_with (go_at_call 80; refine HMY.out.mono ?_; rintro r w1 ⟨rfl, hu⟩; have HU1 := As.mk hu; clear hu)
  go_loopg [11, 12, 13] (l.length + 1) (fun gg dv av bv wr => ∃ d : Nat, d + gg = l.length + 1 ∧ dv = .int .i64 d ∧ As (∀ j : Nat, j < d → mayF l (p + j) = false) ∧ As (∀ j : Nat, j < d → mayF l (p - j) = false) ∧ As (Pure w wr))
  case atStart => exact ⟨0, by omega, rfl, ⟨fun j hj => by omega⟩, ⟨fun j hj => by omega⟩, HU1⟩
  case round =>
    clear HU1
    obtain ⟨d, hd, rfl, HJ1, HJ2, HP⟩ := hrel
    by_cases hlt : d ≤ l.length
    · obtain ⟨g1, rfl⟩ : ∃ m, gk = m + 1 := ⟨gk - 1, by omega⟩
      have hdl : decide ((d : Int) ≤ (l.length : Int)) = true := decide_eq_true (by omega)
      have hw1 : IntKind.i64.wrap (p - (d : Int)) = p - (d : Int) := IntWalk.i64_in _ (by omega)
      have hw2 : IntKind.i64.wrap (p + (d : Int)) = p + (d : Int) := IntWalk.i64_in _ (by omega)
      have hw3 : IntKind.i64.wrap ((d : Int) + 1) = (d : Int) + 1 := IntWalk.i64_in _ (by omega)
      have u1 : decide (p + (d : Int) ≥ 0) = true := decide_eq_true (by omega)
      have u2 : decide (0 ≤ p + (d : Int)) = true := decide_eq_true (by omega)
      have u3 : decide (p - (d : Int) ≤ (l.length : Int)) = true := decide_eq_true (by omega)
      have HMR := As.mk (fun W (hu : Pure w W) => HM.out W hu (p + (d : Int)))
      have HML := As.mk (fun W (hu : Pure w W) => HM.out W hu (p - (d : Int)))
      have HRI := As.mk (HIN.out (p + (d : Int)))
      have HLI := As.mk (HIN.out (p - (d : Int)))
      have HK := As.mk hd
      have HV1 := As.mk (fun (hm : mayF l (p - (d : Int)) = true) => near_left (side := side) HPP.out HJ1.out HJ2.out hm (.inl HSD.out))
      have HV2 := As.mk (fun (h1 : mayF l (p - (d : Int)) = false) (hm : mayF l (p + (d : Int)) = true) => near_right (side := side) HPP.out HJ1.out HJ2.out hm (.inr h1))
      clear hd
      cases m1 : mayF l (p + (d : Int)) <;> cases m2 : mayF l (p - (d : Int)) <;> cases c2 : decide (p + (d : Int) ≤ (l.length : Int)) <;> cases c1 : decide ((d : Int) ≤ p)
      all_goals rw [m1] at HMR HRI
      all_goals rw [m2] at HML HLI
      all_goals first
        | (exfalso; have h9 := (HRI.out rfl).2; have h8 := of_decide_eq_false c2; exact h8 h9)
        | (exfalso; have h9 := (HLI.out rfl).1; have h8 := of_decide_eq_false c1; exact h8 (by omega))
        | skip
      all_goals
        have c3 : decide (p - (d : Int) ≥ 0) = decide ((d : Int) ≤ p) := by rw [Bool.eq_iff_iff, decide_eq_true_eq, decide_eq_true_eq]; omega
        have c4 : decide (0 ≤ p - (d : Int)) = decide ((d : Int) ≤ p) := c3
        rw [c1] at c3 c4
        have HM1 := As.mk m1
        have HM2 := As.mk m2
        clear m1 m2
        go_wp2_with (go_at_call 20; first | (with_reducible refine (HMR.out _ HU2.out).mono ?_; rintro r w3 ⟨rfl, hu⟩; have HU3 := As.mk (HU2.out.trans hu (fun _ _ h => h)); clear hu) | (with_reducible refine (HML.out _ HP.out).mono ?_; rintro r w2 ⟨rfl, hu⟩; have HU2 := As.mk (HP.out.trans hu (fun _ _ h => h)); clear hu) | (with_reducible refine (HMR.out _ HP.out).mono ?_; rintro r w3 ⟨rfl, hu⟩; have HU3 := As.mk (HP.out.trans hu (fun _ _ h => h)); clear hu))
        first
          | (refine bodyPost_ret (results_tmp2 rfl _ _ _) rfl ?_
             first
               | exact ⟨by rw [HV1.out HM2.out]; rfl, by first | exact HU3.out | exact HU2.out | exact HP.out⟩
               | exact ⟨by rw [HV2.out HM2.out HM1.out]; rfl, by first | exact HU3.out | exact HU2.out | exact HP.out⟩)
          | skip
      all_goals
        go_roundg g1
        case measure => omega
        case rel =>
               exact ⟨d + 1, by have := HK.out; omega, by go_num, ⟨fun j hj => by
                 by_cases he : j = d
                 · rw [he]; exact HM1.out
                 · exact HJ1.out j (by omega)⟩, ⟨fun j hj => by
                 by_cases he : j = d
                 · rw [he]; exact HM2.out
                 · exact HJ2.out j (by omega)⟩, by first | exact HU3 | exact HU2 | exact HP⟩
    · obtain rfl : d = l.length + 1 := by omega
      have hdl : decide (((l.length + 1 : Nat) : Int) ≤ (l.length : Int)) = false := decide_eq_false (by omega)
      have hdm : decide ((l.length : Int) + 1 ≤ (l.length : Int)) = false := decide_eq_false (by omega)
      have HE := As.mk (HEND.out HJ1.out HJ2.out)
      clear HJ1 HJ2
      go_wp2
      exact bodyPost_ret (results_tmp2 rfl _ _ _) rfl ⟨by rw [HE.out]; rfl, HP.out⟩
set_option maxRecDepth 100000 in
set_option maxHeartbeats 4000000 in
theorem Near11_no {w : World} {cb : Nat} {F : Nat → Prop} {A : Option Addr} {c : Nat} {l : List Tok} {p side : Int} (h : H6 w cb) (hr : tokR.row w F A l) (hb : l.length ≤ 200) (hlc : l.length ≤ c) (h0 : cmayV l p ≠ 0) :
    Calls Tryz.prog 25 #[.pointer (some ⟨cb, 0, none⟩), .slice A l.length c, .int .i64 p, .int .i64 side] w fun r w' => r = .returned (.tuple #[.int .i64 0, .int .i64 (cmayV l p)]) ∧ Pure w w' := by
  have HMY := As.mk (may11_calls (c := c) (p := p) h hr (by omega) hlc)
  have h1 : (cmayV l p != 0) = true := by simpa using h0
  generalize cmayV l p = e at *
  clear h hr h0
  go_enter Tryz.func25, Tryz.ntmps25
  go_wp2_with (go_at_call 80; refine HMY.out.mono ?_; rintro r w1 ⟨rfl, hu⟩; have HU1 := As.mk hu; clear hu)
  exact bodyPost_ret (results_tmp2 rfl _ _ _) rfl ⟨rfl, HU1.out⟩
theorem Near11_calls {w : World} {cb : Nat} {F : Nat → Prop} {A : Option Addr} {c : Nat} {l : List Tok} {p side : Int} (h : H6 w cb) (hr : tokR.row w F A l) (hb : l.length ≤ 200) (hlc : l.length ≤ c) :
    Calls Tryz.prog 25 #[.pointer (some ⟨cb, 0, none⟩), .slice A l.length c, .int .i64 p, .int .i64 side] w fun r w' => r = .returned (.tuple #[.int .i64 (nearR l p side).1, .int .i64 (nearR l p side).2]) ∧ Pure w w' := by
  unfold nearR
  by_cases h0 : cmayV l p = 0
  · rw [if_neg (by omega)]
    by_cases hs : 0 ≤ side
    · exact Near11_pos h hr hb hlc h0 hs
    · exact Near11_neg h hr hb hlc h0 (by omega)
  · rw [if_pos h0]
    exact Near11_no h hr hb hlc h0
end Go.Proofs.YtofjodppljnlaaaGreatDoor
namespace Go.Proofs.YtofjodppljnlaaaGreatDoor
open Go.RowKit Go.Shelf
set_option linter.unusedVariables false
set_option linter.unusedSimpArgs false
attribute [local go_sem] Oper.semAt_some
def moveR (l : List Tok) (p n : Int) : Int × Int := if cmayV l p ≠ 0 then (0, cmayV l p) else (moveV l p n, 0)
set_option maxRecDepth 100000 in
set_option maxHeartbeats 4000000 in
theorem move_main {w : World} {cb : Nat} {F : Nat → Prop} {A : Option Addr} {c : Nat} {l : List Tok} {p n : Int} (h : SchR w cb houseRules houseGroups) (hr : tokR.row w F A l) (hb : l.length ≤ 200) (hlc : l.length ≤ c) (h0 : cmayV l p = 0) (hn : n ≠ 0) (hn2 : -9223372036854775808 ≤ n ∧ n ≤ 9223372036854775807) :
    Calls Tryz.prog 26 #[.pointer (some ⟨cb, 0, none⟩), .slice A l.length c, .int .i64 p, .int .i64 n] w fun r w' => r = .returned (.tuple #[.int .i64 (moveV l p n), .int .i64 0]) ∧ Pure w w' := by
  have hm := fun (W : World) (hu : Pure w W) => cmay_calls (c := c) (p := p) (h.pure hu) (Rp.row_pure hr hu) hb
  rw [h0] at hm
  obtain ⟨ok, hp⟩ := cmay_zero h0
  have hTC := fun (W : World) (q s : Int) => texts_calls W cb A l.length c q s
  have hs : sideOf n = 1 ∨ sideOf n = -1 := by unfold sideOf; split <;> simp
  have e0 : (n == 0) = false := by simpa using hn
  refine (callsIn_wide (n := 6)).1 ?_
  refine callsIn_of_wp_marks Tryz.func26 rfl trivial ?_ rfl
  simp only [Tryz.ntmps26, List.size_toArray, List.length_cons, List.length_nil, Nat.reduceAdd, Nat.reduceSub, Array.replicate_succ, Array.replicate_zero, List.push_toArray, List.append_toArray, List.nil_append, List.cons_append]
  have HB7 := As.mk (heap_alloc_new w (.cells #[.int .i64 n] 3))
  cases hneg : decide (n < 0)
  · skip
    have hsd : sideOf n = 1 := by unfold sideOf; rw [if_neg (of_decide_eq_false hneg)]
    have hwp : IntKind.i64.wrap (p + 1) = p + 1 := IntWalk.i64_in _ (by omega)
    have hwp2 : IntKind.i64.wrap (p - 1) = p - 1 := IntWalk.i64_in _ (by omega)
    refine wpIn_wide.2 ?_
    go_wp2
    refine wp_scope_straight ?_
    go_wp2_with ((go_at_call 79; refine (hm _ (Upd.alloc1 _ _ _)).mono ?_; rintro e w1 ⟨rfl, hu⟩; have b7 := (hu.block w.heap.size (by simp) (fun h => h)).trans HB7.out; have q7 : w1.cell? ⟨w.heap.size, 0, none⟩ = some (.int .i64 n) := (by unfold World.cell?; simp only [b7]; rfl); have z7 : w.heap.size < w1.heap.size := (Array.getElem?_eq_some_iff.1 b7).1; have HB71 := As.mk b7; have HU1 := As.mk hu; clear hu b7; apply As.out))
    refine ⟨?_⟩
    go_wp2
    refine wp_label ?_
    go_wp2_with (go_at_call 82; refine (hTC _ _ _).mono ?_; rintro e w2 ⟨rfl, hx, hu, hsz⟩; have HX := As.mk hx; have HU := As.mk hu; have HSZ := As.mk hsz; clear hx hu hsz)
    have hz2 : w2.heap.size = w1.heap.size + 1 + 1 + 1 + 4 := by rw [HSZ.out]; simp [World.setCell]
    have hP1 : Pure w w1 := Upd.trans (Upd.alloc1 (fun _ => False) _ _) HU1.out (fun _ _ h => h)
    have hPw : Pure w w2 := (((hP1.alloc _).alloc _).alloc _).trans HU.out (fun _ _ h => h)
    have hsz3 : (((w1.alloc (.cells #[.int .i64 (1)] 3)).alloc (.cells #[.int .i64 p] 3)).alloc (.cells #[.int .i64 0] 3)).heap.size = w1.heap.size + 1 + 1 + 1 := by simp [World.setCell]
    have bk7 : w2.heap[w.heap.size]? = some (.cells #[.int .i64 n] 3 (0, 0)) := (HU.out.block _ (by rw [hsz3]; omega) (fun h => h)).trans ((Below.heap_alloc _ _ _ (by simp [World.setCell]; omega)).trans ((Below.heap_alloc _ _ _ (by simp [World.setCell]; omega)).trans ((Below.heap_alloc _ _ _ z7).trans HB71.out)))
    have bk0 : w2.heap[w1.heap.size]? = some (.cells #[.int .i64 (1)] 3 (0, 0)) := (HU.out.block _ (by rw [hsz3]; omega) (fun h => h)).trans ((Below.heap_alloc _ _ _ (by simp [World.setCell]; try omega)).trans ((Below.heap_alloc _ _ _ (by simp [World.setCell])).trans (heap_alloc_new w1 _)))
    have bk1 : w2.heap[w1.heap.size + 1]? = some (.cells #[.int .i64 p] 3 (0, 0)) := (HU.out.block _ (by rw [hsz3]; omega) (fun h => h)).trans ((Below.heap_alloc _ _ _ (by simp [World.setCell])).trans (by
      have h9 := heap_alloc_new (w1.alloc (.cells #[.int .i64 (1)] 3)) (.cells #[.int .i64 p] 3)
      simpa [World.setCell] using h9))
    have bk2 : w2.heap[w1.heap.size + 1 + 1]? = some (.cells #[.int .i64 0] 3 (0, 0)) := (HU.out.block _ (by rw [hsz3]; omega) (fun h => h)).trans (by
      have h9 := heap_alloc_new ((w1.alloc (.cells #[.int .i64 (1)] 3)).alloc (.cells #[.int .i64 p] 3)) (.cells #[.int .i64 0] 3)
      simpa [World.setCell] using h9)
    have cel : ∀ {k : Nat} {v : Value}, w2.heap[k]? = some (.cells #[v] 3 (0, 0)) → w2.cell? ⟨k, 0, none⟩ = some v ∧ w2.frozen? ⟨k, 0, none⟩ = false := fun {k v} hk => ⟨by unfold World.cell?; simp only [hk]; rfl, by simp [World.frozen?, hk]⟩
    have HXB : Boxes w2 (w1.heap.size + 1 + 1 + 1) cb A l.length c (p + 1) 1 := by
      have h9 := HX.out
      rw [hsz3] at h9
      exact h9
    refine (wpIn_wide (n := 6)).1 ?_
    refine wpIn_rangeFunc_ownF rfl (by omega) (gf := 138) (lb := #[.pointer (some ⟨w1.heap.size + 1 + 1 + 1 + 2, 0, none⟩), .pointer (some ⟨w1.heap.size + 1 + 1 + 1 + 1, 0, none⟩), .pointer (some ⟨w1.heap.size + 1 + 1 + 1 + 3, 0, none⟩), .pointer (some ⟨w1.heap.size + 1 + 1 + 1, 0, none⟩)]) rfl trivial (enters_of Tryz.func138 (by kernel_rfl) rfl)
      (texts_stops 5 (by omega) (w0 := w) (w := w2) (p := p + 1) (s := 1) (B := w1.heap.size + 1 + 1 + 1) h hr hb hlc ok (.inl rfl) (by omega) hPw (by omega) HXB) KpT.trans
      (fun W l0 o o' hl _ _ _ => (grown_upd (grownBy_putObj' W l0 o')).mono (fun k _ e => by injection e with e; omega)) (Below.refl _ _) (fun _ => rfl)
      (fun pre W => (W.cell? ⟨w.heap.size, 0, none⟩ = some (.int .i64 n) ∧ W.cell? ⟨w1.heap.size, 0, none⟩ = some (.int .i64 (1)) ∧ W.cell? ⟨w1.heap.size + 1, 0, none⟩ = some (.int .i64 (pre.getLast?.getD p)) ∧ W.frozen? ⟨w1.heap.size + 1, 0, none⟩ = false ∧ W.cell? ⟨w1.heap.size + 1 + 1, 0, none⟩ = some (.int .i64 (((pre.length : Nat) : Int))) ∧ W.frozen? ⟨w1.heap.size + 1 + 1, 0, none⟩ = false ∧ pre.length < n.natAbs) ∧ Below w.heap.size w W)
      (fun cc pre W => (cc = .exit 0 ∧ W.cell? ⟨w1.heap.size + 1, 0, none⟩ = some (.int .i64 (pre.getLast?.getD p)) ∧ pre.length = n.natAbs) ∧ Below w.heap.size w W)
      (OwnFrom.and (Own.from (fun pre X Y row hh hg hrw => ⟨cell_kept hh.1 hg hrw, cell_kept hh.2.1 hg hrw, cell_kept hh.2.2.1 hg hrw, (frozen_kept hh.2.2.1 hg hrw).trans hh.2.2.2.1, cell_kept hh.2.2.2.2.1 hg hrw, (frozen_kept hh.2.2.2.2.1 hg hrw).trans hh.2.2.2.2.2.1, hh.2.2.2.2.2.2⟩) _) (ownFrom_below (Nat.le_refl _) (by omega)))
      (fun cc => OwnFrom.and (Own.from (fun pre X Y row hh hg hrw => ⟨hh.1, cell_kept hh.2.1 hg hrw, hh.2.2⟩) _) (ownFrom_below (Nat.le_refl _) (by omega)))
      ⟨⟨(cel bk7).1, (cel bk0).1, (cel bk1).1, (cel bk1).2, (cel bk2).1, (cel bk2).2, by simp; omega⟩, hPw.below⟩
      (fun x => { tmps := #[.pointer (some ⟨cb, 0, none⟩), .slice A l.length c, .int .i64 p, .int .i64 n, undef, undef, undef, .pointer (some ⟨w.heap.size, 0, none⟩), .int .i64 0, .int .i64 0, .int .i64 0, .pointer (some ⟨w1.heap.size, 0, none⟩), .pointer (some ⟨w1.heap.size + 1, 0, none⟩), .pointer (some ⟨w1.heap.size + 1 + 1, 0, none⟩), .int .i64 x, .pointer (some ⟨cb, 0, none⟩), .slice A l.length c, .int .i64 p, .int .i64 0, .int .i64 0, .bool false, undef, .int .i64 n, .bool false, undef, .int .i64 n, .bool false, .int .i64 p, .pointer (some ⟨cb, 0, none⟩), .slice A l.length c, .int .i64 p, .int .i64 (1), .int .i64 (p + 1), .int .i64 (1), .func (.func 138) #[] #[.pointer (some ⟨w1.heap.size + 1 + 1 + 1 + 2, 0, none⟩), .pointer (some ⟨w1.heap.size + 1 + 1 + 1 + 1, 0, none⟩), .pointer (some ⟨w1.heap.size + 1 + 1 + 1 + 3, 0, none⟩), .pointer (some ⟨w1.heap.size + 1 + 1 + 1, 0, none⟩)], .int .i64 x, undef, undef, undef, undef, undef, undef, undef, undef], defers := [] }) ?assign ?body ?done ?stop
    case assign =>
      intro lp x W K hK
      gi_wp2
      exact hK
    case body =>
      have hn3 := of_decide_eq_false hneg
      rintro lp pre x W ⟨⟨q7', q0, q1, q2, q3, q4, hlt⟩, hB⟩ _
      have hwn : IntKind.i64.wrap (((pre.length : Nat) : Int) + 1) = ((pre.length : Nat) : Int) + 1 := IntWalk.i64_in _ (by omega)
      have hwn2 : IntKind.i64.wrap (((pre.length : Nat) : Int) - 1) = ((pre.length : Nat) : Int) - 1 := IntWalk.i64_in _ (by omega)
      have h2 := As.mk (two_sets (.int .i64 x) (.int .i64 (((pre.length : Nat) : Int) + 1)) q1 q3 (by omega) hB (by omega) (by omega))
      have hk : As (KpT w.heap.size (w1.heap.size + 1 + 1 + 1) W ((W.setCell ⟨w1.heap.size + 1, 0, none⟩ (.int .i64 x)).setCell ⟨w1.heap.size + 1 + 1, 0, none⟩ (.int .i64 (((pre.length : Nat) : Int) + 1)))) := ⟨((Upd.setCell1 (S := fun k => w.heap.size ≤ k ∧ (k < w1.heap.size + 1 + 1 + 1 ∨ w1.heap.size + 1 + 1 + 1 + 4 ≤ k)) W (p := ⟨w1.heap.size + 1, 0, none⟩) ⟨by show w.heap.size ≤ w1.heap.size + 1; omega, .inl (by show w1.heap.size + 1 < _; omega)⟩ _).setCell (p := ⟨w1.heap.size + 1 + 1, 0, none⟩) (fun _ => ⟨by show w.heap.size ≤ w1.heap.size + 1 + 1; omega, .inl (by show w1.heap.size + 1 + 1 < _; omega)⟩) _)⟩
      have hgl : (pre ++ [x]).getLast?.getD p = x := by simp
      have hot := As.mk (fun (k : Nat) (v : Value) (hk1 : k ≠ w1.heap.size + 1) (hk2 : k ≠ w1.heap.size + 1 + 1) (hc : W.cell? ⟨k, 0, none⟩ = some v) => (((World.cell?_setCell_far (W.setCell ⟨w1.heap.size + 1, 0, none⟩ (.int .i64 x)) ⟨w1.heap.size + 1 + 1, 0, none⟩ ⟨k, 0, none⟩ (.int .i64 (((pre.length : Nat) : Int) + 1)) (fun e => hk2 e.symm)).trans (World.cell?_setCell_far W ⟨w1.heap.size + 1, 0, none⟩ ⟨k, 0, none⟩ (.int .i64 x) (fun e => hk1 e.symm))).trans hc : ((W.setCell ⟨w1.heap.size + 1, 0, none⟩ (.int .i64 x)).setCell ⟨w1.heap.size + 1 + 1, 0, none⟩ (.int .i64 (((pre.length : Nat) : Int) + 1))).cell? ⟨k, 0, none⟩ = some v))
      have e7 := hot.out _ _ (by omega) (by omega) q7'
      by_cases hend : pre.length + 1 = n.natAbs
      · have ht : (((pre.length : Nat) : Int) + 1 == n) = true := by simp; omega
        gi_wp2
        all_goals exact ⟨h2.out.1, ⟨rfl, by rw [hgl]; exact h2.out.2.1, by simp; exact hend⟩, h2.out.2.2.2⟩
      · have ht : (((pre.length : Nat) : Int) + 1 == n) = false := by simp; omega
        gi_wp2
        all_goals exact ⟨h2.out.1, hk.out, ⟨e7, hot.out _ _ (by omega) (by omega) q0, by rw [hgl]; exact h2.out.2.1, by simp only [World.frozen?_setCell]; exact q2, by rw [h2.out.2.2.1]; congr 2; simp, by simp only [World.frozen?_setCell]; exact q4, by simp; omega⟩, h2.out.2.2.2⟩
    case done =>
      rintro D ys W hD rfl ⟨⟨q7', q0, q1, q2, q3, q4, hlt⟩, hB⟩ hK
      have hmv : moveV l p n = (places l 1 (p + 1)).getLast?.getD p := by
        unfold moveV lastTake
        rw [if_neg hn, hsd, List.take_of_length_le (by omega)]
      go_wp2
      refine ⟨by simp, .inl ⟨_, _, rfl, run_takeDeferred hK, ?_⟩⟩
      refine ⟨.tuple #[.int .i64 (moveV l p n), .int .i64 0], ?_, rfl, Upd.of_below (hB.trans (belowK_b (w := w) (Nat.le_refl _) W D _ _ (by omega) hK rfl rfl))⟩
      rw [hmv]
      simp [results, Tryz.f26, go_sem]
    case stop =>
      rintro D cc pre W hD hpre ⟨⟨rfl, q1, hlen⟩, hB⟩ hK
      have hmv : moveV l p n = pre.getLast?.getD p := by
        unfold moveV lastTake
        rw [if_neg hn, hsd, ← hlen, ← List.prefix_iff_eq_take.1 hpre]
      gi_wp2
      go_wp2
      refine ⟨by simp, .inl ⟨_, _, rfl, run_takeDeferred hK, ?_⟩⟩
      refine ⟨.tuple #[.int .i64 (moveV l p n), .int .i64 0], ?_, rfl, Upd.of_below (hB.trans (belowK_b (w := w) (Nat.le_refl _) W D _ _ (by omega) hK rfl rfl))⟩
      rw [hmv]
      simp [results, Tryz.f26, go_sem]
  · skip
    have hsd : sideOf n = (-1) := by unfold sideOf; rw [if_pos (of_decide_eq_true hneg)]
    have hwp : IntKind.i64.wrap (p + -1) = p + -1 := IntWalk.i64_in _ (by omega)
    have hwp2 : IntKind.i64.wrap (p - 1) = p - 1 := IntWalk.i64_in _ (by omega)
    refine wpIn_wide.2 ?_
    go_wp2
    refine wp_scope_straight ?_
    go_wp2_with ((go_at_call 79; refine (hm _ (Upd.alloc1 _ _ _)).mono ?_; rintro e w1 ⟨rfl, hu⟩; have b7 := (hu.block w.heap.size (by simp) (fun h => h)).trans HB7.out; have q7 : w1.cell? ⟨w.heap.size, 0, none⟩ = some (.int .i64 n) := (by unfold World.cell?; simp only [b7]; rfl); have z7 : w.heap.size < w1.heap.size := (Array.getElem?_eq_some_iff.1 b7).1; have HB71 := As.mk b7; have HU1 := As.mk hu; clear hu b7; apply As.out))
    refine ⟨?_⟩
    go_wp2
    refine wp_label ?_
    go_wp2_with (go_at_call 82; refine (hTC _ _ _).mono ?_; rintro e w2 ⟨rfl, hx, hu, hsz⟩; have HX := As.mk hx; have HU := As.mk hu; have HSZ := As.mk hsz; clear hx hu hsz)
    have hz2 : w2.heap.size = w1.heap.size + 1 + 1 + 1 + 4 := by rw [HSZ.out]; simp [World.setCell]
    have hP1 : Pure w w1 := Upd.trans (Upd.alloc1 (fun _ => False) _ _) HU1.out (fun _ _ h => h)
    have hPw : Pure w w2 := (((hP1.alloc _).alloc _).alloc _).trans HU.out (fun _ _ h => h)
    have hsz3 : (((w1.alloc (.cells #[.int .i64 (-1)] 3)).alloc (.cells #[.int .i64 p] 3)).alloc (.cells #[.int .i64 0] 3)).heap.size = w1.heap.size + 1 + 1 + 1 := by simp [World.setCell]
    have bk7 : w2.heap[w.heap.size]? = some (.cells #[.int .i64 n] 3 (0, 0)) := (HU.out.block _ (by rw [hsz3]; omega) (fun h => h)).trans ((Below.heap_alloc _ _ _ (by simp [World.setCell]; omega)).trans ((Below.heap_alloc _ _ _ (by simp [World.setCell]; omega)).trans ((Below.heap_alloc _ _ _ z7).trans HB71.out)))
    have bk0 : w2.heap[w1.heap.size]? = some (.cells #[.int .i64 (-1)] 3 (0, 0)) := (HU.out.block _ (by rw [hsz3]; omega) (fun h => h)).trans ((Below.heap_alloc _ _ _ (by simp [World.setCell]; try omega)).trans ((Below.heap_alloc _ _ _ (by simp [World.setCell])).trans (heap_alloc_new w1 _)))
    have bk1 : w2.heap[w1.heap.size + 1]? = some (.cells #[.int .i64 p] 3 (0, 0)) := (HU.out.block _ (by rw [hsz3]; omega) (fun h => h)).trans ((Below.heap_alloc _ _ _ (by simp [World.setCell])).trans (by
      have h9 := heap_alloc_new (w1.alloc (.cells #[.int .i64 (-1)] 3)) (.cells #[.int .i64 p] 3)
      simpa [World.setCell] using h9))
    have bk2 : w2.heap[w1.heap.size + 1 + 1]? = some (.cells #[.int .i64 0] 3 (0, 0)) := (HU.out.block _ (by rw [hsz3]; omega) (fun h => h)).trans (by
      have h9 := heap_alloc_new ((w1.alloc (.cells #[.int .i64 (-1)] 3)).alloc (.cells #[.int .i64 p] 3)) (.cells #[.int .i64 0] 3)
      simpa [World.setCell] using h9)
    have cel : ∀ {k : Nat} {v : Value}, w2.heap[k]? = some (.cells #[v] 3 (0, 0)) → w2.cell? ⟨k, 0, none⟩ = some v ∧ w2.frozen? ⟨k, 0, none⟩ = false := fun {k v} hk => ⟨by unfold World.cell?; simp only [hk]; rfl, by simp [World.frozen?, hk]⟩
    have HXB : Boxes w2 (w1.heap.size + 1 + 1 + 1) cb A l.length c (p + -1) (-1) := by
      have h9 := HX.out
      rw [hsz3] at h9
      exact h9
    refine (wpIn_wide (n := 6)).1 ?_
    refine wpIn_rangeFunc_ownF rfl (by omega) (gf := 138) (lb := #[.pointer (some ⟨w1.heap.size + 1 + 1 + 1 + 2, 0, none⟩), .pointer (some ⟨w1.heap.size + 1 + 1 + 1 + 1, 0, none⟩), .pointer (some ⟨w1.heap.size + 1 + 1 + 1 + 3, 0, none⟩), .pointer (some ⟨w1.heap.size + 1 + 1 + 1, 0, none⟩)]) rfl trivial (enters_of Tryz.func138 (by kernel_rfl) rfl)
      (texts_stops 5 (by omega) (w0 := w) (w := w2) (p := p + -1) (s := (-1)) (B := w1.heap.size + 1 + 1 + 1) h hr hb hlc ok (.inr rfl) (by omega) hPw (by omega) HXB) KpT.trans
      (fun W l0 o o' hl _ _ _ => (grown_upd (grownBy_putObj' W l0 o')).mono (fun k _ e => by injection e with e; omega)) (Below.refl _ _) (fun _ => rfl)
      (fun pre W => (W.cell? ⟨w.heap.size, 0, none⟩ = some (.int .i64 n) ∧ W.cell? ⟨w1.heap.size, 0, none⟩ = some (.int .i64 (-1)) ∧ W.cell? ⟨w1.heap.size + 1, 0, none⟩ = some (.int .i64 (pre.getLast?.getD p)) ∧ W.frozen? ⟨w1.heap.size + 1, 0, none⟩ = false ∧ W.cell? ⟨w1.heap.size + 1 + 1, 0, none⟩ = some (.int .i64 (-((pre.length : Nat) : Int))) ∧ W.frozen? ⟨w1.heap.size + 1 + 1, 0, none⟩ = false ∧ pre.length < n.natAbs) ∧ Below w.heap.size w W)
      (fun cc pre W => (cc = .exit 0 ∧ W.cell? ⟨w1.heap.size + 1, 0, none⟩ = some (.int .i64 (pre.getLast?.getD p)) ∧ pre.length = n.natAbs) ∧ Below w.heap.size w W)
      (OwnFrom.and (Own.from (fun pre X Y row hh hg hrw => ⟨cell_kept hh.1 hg hrw, cell_kept hh.2.1 hg hrw, cell_kept hh.2.2.1 hg hrw, (frozen_kept hh.2.2.1 hg hrw).trans hh.2.2.2.1, cell_kept hh.2.2.2.2.1 hg hrw, (frozen_kept hh.2.2.2.2.1 hg hrw).trans hh.2.2.2.2.2.1, hh.2.2.2.2.2.2⟩) _) (ownFrom_below (Nat.le_refl _) (by omega)))
      (fun cc => OwnFrom.and (Own.from (fun pre X Y row hh hg hrw => ⟨hh.1, cell_kept hh.2.1 hg hrw, hh.2.2⟩) _) (ownFrom_below (Nat.le_refl _) (by omega)))
      ⟨⟨(cel bk7).1, (cel bk0).1, (cel bk1).1, (cel bk1).2, (cel bk2).1, (cel bk2).2, by simp; omega⟩, hPw.below⟩
      (fun x => { tmps := #[.pointer (some ⟨cb, 0, none⟩), .slice A l.length c, .int .i64 p, .int .i64 n, undef, undef, undef, .pointer (some ⟨w.heap.size, 0, none⟩), .int .i64 0, .int .i64 0, .int .i64 0, .pointer (some ⟨w1.heap.size, 0, none⟩), .pointer (some ⟨w1.heap.size + 1, 0, none⟩), .pointer (some ⟨w1.heap.size + 1 + 1, 0, none⟩), .int .i64 x, .pointer (some ⟨cb, 0, none⟩), .slice A l.length c, .int .i64 p, .int .i64 0, .int .i64 0, .bool false, undef, .int .i64 n, .bool false, undef, .int .i64 n, .bool true, .int .i64 p, .pointer (some ⟨cb, 0, none⟩), .slice A l.length c, .int .i64 p, .int .i64 (-1), .int .i64 (p + -1), .int .i64 (-1), .func (.func 138) #[] #[.pointer (some ⟨w1.heap.size + 1 + 1 + 1 + 2, 0, none⟩), .pointer (some ⟨w1.heap.size + 1 + 1 + 1 + 1, 0, none⟩), .pointer (some ⟨w1.heap.size + 1 + 1 + 1 + 3, 0, none⟩), .pointer (some ⟨w1.heap.size + 1 + 1 + 1, 0, none⟩)], .int .i64 x, undef, undef, undef, undef, undef, undef, undef, undef], defers := [] }) ?assign ?body ?done ?stop
    case assign =>
      intro lp x W K hK
      gi_wp2
      exact hK
    case body =>
      have hn3 := of_decide_eq_true hneg
      rintro lp pre x W ⟨⟨q7', q0, q1, q2, q3, q4, hlt⟩, hB⟩ _
      have hwn : IntKind.i64.wrap (-((pre.length : Nat) : Int) + -1) = -((pre.length : Nat) : Int) + -1 := IntWalk.i64_in _ (by omega)
      have hwn2 : IntKind.i64.wrap (-((pre.length : Nat) : Int) - 1) = -((pre.length : Nat) : Int) - 1 := IntWalk.i64_in _ (by omega)
      have h2 := As.mk (two_sets (.int .i64 x) (.int .i64 (-((pre.length : Nat) : Int) + -1)) q1 q3 (by omega) hB (by omega) (by omega))
      have hk : As (KpT w.heap.size (w1.heap.size + 1 + 1 + 1) W ((W.setCell ⟨w1.heap.size + 1, 0, none⟩ (.int .i64 x)).setCell ⟨w1.heap.size + 1 + 1, 0, none⟩ (.int .i64 (-((pre.length : Nat) : Int) + -1)))) := ⟨((Upd.setCell1 (S := fun k => w.heap.size ≤ k ∧ (k < w1.heap.size + 1 + 1 + 1 ∨ w1.heap.size + 1 + 1 + 1 + 4 ≤ k)) W (p := ⟨w1.heap.size + 1, 0, none⟩) ⟨by show w.heap.size ≤ w1.heap.size + 1; omega, .inl (by show w1.heap.size + 1 < _; omega)⟩ _).setCell (p := ⟨w1.heap.size + 1 + 1, 0, none⟩) (fun _ => ⟨by show w.heap.size ≤ w1.heap.size + 1 + 1; omega, .inl (by show w1.heap.size + 1 + 1 < _; omega)⟩) _)⟩
      have hgl : (pre ++ [x]).getLast?.getD p = x := by simp
      have hot := As.mk (fun (k : Nat) (v : Value) (hk1 : k ≠ w1.heap.size + 1) (hk2 : k ≠ w1.heap.size + 1 + 1) (hc : W.cell? ⟨k, 0, none⟩ = some v) => (((World.cell?_setCell_far (W.setCell ⟨w1.heap.size + 1, 0, none⟩ (.int .i64 x)) ⟨w1.heap.size + 1 + 1, 0, none⟩ ⟨k, 0, none⟩ (.int .i64 (-((pre.length : Nat) : Int) + -1)) (fun e => hk2 e.symm)).trans (World.cell?_setCell_far W ⟨w1.heap.size + 1, 0, none⟩ ⟨k, 0, none⟩ (.int .i64 x) (fun e => hk1 e.symm))).trans hc : ((W.setCell ⟨w1.heap.size + 1, 0, none⟩ (.int .i64 x)).setCell ⟨w1.heap.size + 1 + 1, 0, none⟩ (.int .i64 (-((pre.length : Nat) : Int) + -1))).cell? ⟨k, 0, none⟩ = some v))
      have e7 := hot.out _ _ (by omega) (by omega) q7'
      by_cases hend : pre.length + 1 = n.natAbs
      · have ht : (-((pre.length : Nat) : Int) + -1 == n) = true := by simp; omega
        gi_wp2
        all_goals exact ⟨h2.out.1, ⟨rfl, by rw [hgl]; exact h2.out.2.1, by simp; exact hend⟩, h2.out.2.2.2⟩
      · have ht : (-((pre.length : Nat) : Int) + -1 == n) = false := by simp; omega
        gi_wp2
        all_goals exact ⟨h2.out.1, hk.out, ⟨e7, hot.out _ _ (by omega) (by omega) q0, by rw [hgl]; exact h2.out.2.1, by simp only [World.frozen?_setCell]; exact q2, by rw [h2.out.2.2.1]; congr 2; simp; omega, by simp only [World.frozen?_setCell]; exact q4, by simp; omega⟩, h2.out.2.2.2⟩
    case done =>
      rintro D ys W hD rfl ⟨⟨q7', q0, q1, q2, q3, q4, hlt⟩, hB⟩ hK
      have hmv : moveV l p n = (places l (-1) (p + -1)).getLast?.getD p := by
        unfold moveV lastTake
        rw [if_neg hn, hsd, List.take_of_length_le (by omega)]
      go_wp2
      refine ⟨by simp, .inl ⟨_, _, rfl, run_takeDeferred hK, ?_⟩⟩
      refine ⟨.tuple #[.int .i64 (moveV l p n), .int .i64 0], ?_, rfl, Upd.of_below (hB.trans (belowK_b (w := w) (Nat.le_refl _) W D _ _ (by omega) hK rfl rfl))⟩
      rw [hmv]
      simp [results, Tryz.f26, go_sem]
    case stop =>
      rintro D cc pre W hD hpre ⟨⟨rfl, q1, hlen⟩, hB⟩ hK
      have hmv : moveV l p n = pre.getLast?.getD p := by
        unfold moveV lastTake
        rw [if_neg hn, hsd, ← hlen, ← List.prefix_iff_eq_take.1 hpre]
      gi_wp2
      go_wp2
      refine ⟨by simp, .inl ⟨_, _, rfl, run_takeDeferred hK, ?_⟩⟩
      refine ⟨.tuple #[.int .i64 (moveV l p n), .int .i64 0], ?_, rfl, Upd.of_below (hB.trans (belowK_b (w := w) (Nat.le_refl _) W D _ _ (by omega) hK rfl rfl))⟩
      rw [hmv]
      simp [results, Tryz.f26, go_sem]
set_option maxRecDepth 100000 in
set_option maxHeartbeats 4000000 in
theorem move_easy {w : World} {cb : Nat} {F : Nat → Prop} {A : Option Addr} {c : Nat} {l : List Tok} {p n : Int} (h : SchR w cb houseRules houseGroups) (hr : tokR.row w F A l) (hb : l.length ≤ 200) (h0 : cmayV l p ≠ 0 ∨ n = 0) :
    Calls Tryz.prog 26 #[.pointer (some ⟨cb, 0, none⟩), .slice A l.length c, .int .i64 p, .int .i64 n] w fun r w' => r = .returned (.tuple #[.int .i64 (moveR l p n).1, .int .i64 (moveR l p n).2]) ∧ Pure w w' := by
  have hm := fun (W : World) (hu : Pure w W) => cmay_calls (c := c) (p := p) (h.pure hu) (Rp.row_pure hr hu) hb
  refine (callsIn_wide (n := 6)).1 ?_
  refine callsIn_of_wp_marks Tryz.func26 rfl trivial ?_ rfl
  simp only [Tryz.ntmps26, List.size_toArray, List.length_cons, List.length_nil, Nat.reduceAdd, Nat.reduceSub, Array.replicate_succ, Array.replicate_zero, List.push_toArray, List.append_toArray, List.nil_append, List.cons_append]
  have HB7 := As.mk (heap_alloc_new w (.cells #[.int .i64 n] 3))
  clear hr h
  by_cases he : cmayV l p = 0
  · have hn : n = 0 := by rcases h0 with h | h; exact absurd he h; exact h
    have hv : moveR l p n = (p, 0) := by unfold moveR moveV; rw [if_neg (by omega), if_pos hn]
    rw [hv]
    rw [he] at hm
    clear hv h0 he
    subst hn
    refine wpIn_wide.2 ?_
    go_wp2
    refine wp_scope_straight ?_
    go_wp2_with ((go_at_call 79; refine (hm _ (Upd.alloc1 _ _ _)).mono ?_; rintro e w1 ⟨rfl, hu⟩; have b7 := (hu.block w.heap.size (by simp) (fun h => h)).trans HB7.out; have q7 : w1.cell? ⟨w.heap.size, 0, none⟩ = some (.int .i64 0) := (by unfold World.cell?; simp only [b7]; rfl); have HU1 := As.mk (Upd.trans (Upd.alloc1 (fun _ => False) _ _) hu (fun _ _ h => h)); clear hu b7))
    refine ⟨.tuple #[.int .i64 p, .int .i64 0], ?_, rfl, HU1.out⟩
    simp [results, Tryz.f26, go_sem]
  · have hv : moveR l p n = (0, cmayV l p) := by unfold moveR; rw [if_pos he]
    rw [hv]
    have c1 : (cmayV l p != 0) = true := by simpa using he
    clear hv h0 he
    generalize cmayV l p = ev at *
    refine wpIn_wide.2 ?_
    go_wp2
    refine wp_scope_straight ?_
    go_wp2_with ((go_at_call 79; refine (hm _ (Upd.alloc1 _ _ _)).mono ?_; rintro e w1 ⟨rfl, hu⟩; have HU1 := As.mk (Upd.trans (Upd.alloc1 (fun _ => False) _ _) hu (fun _ _ h => h)); clear hu))
    refine ⟨.tuple #[.int .i64 0, .int .i64 ev], ?_, rfl, HU1.out⟩
    simp [results, Tryz.f26, go_sem]
set_option maxRecDepth 100000 in
set_option maxHeartbeats 4000000 in
theorem move_calls {w : World} {cb : Nat} {F : Nat → Prop} {A : Option Addr} {c : Nat} {l : List Tok} {p n : Int} (h : SchR w cb houseRules houseGroups) (hr : tokR.row w F A l) (hb : l.length ≤ 200) (hlc : l.length ≤ c) (hn2 : -9223372036854775808 ≤ n ∧ n ≤ 9223372036854775807) :
    Calls Tryz.prog 26 #[.pointer (some ⟨cb, 0, none⟩), .slice A l.length c, .int .i64 p, .int .i64 n] w fun r w' => r = .returned (.tuple #[.int .i64 (moveR l p n).1, .int .i64 (moveR l p n).2]) ∧ Pure w w' := by
  by_cases h0 : cmayV l p = 0
  · by_cases hn : n = 0
    · exact move_easy h hr hb (.inr hn)
    · have hv : moveR l p n = (moveV l p n, 0) := by unfold moveR; rw [if_neg (by omega)]
      rw [hv]
      exact move_main h hr hb hlc h0 hn hn2
  · exact move_easy h hr hb (.inl h0)
end Go.Proofs.YtofjodppljnlaaaGreatDoor
namespace Go.Proofs.YtofjodppljnlaaaGreatDoor
open Go.RowKit
set_option linter.unusedVariables false
set_option linter.unusedSimpArgs false
theorem places_in {l : List Tok} {s p : Int} (hs : s = 1 ∨ s = -1) (hp : 0 ≤ p ∧ p ≤ (l.length : Int)) : places l s p = if mayF l p = true then p :: places l s (p + s) else places l s (p + s) := by
  have he := enough_places l hs p
  obtain ⟨g, hg⟩ := he.pos hp
  have hx : places l s p = plc l s (g + 1) p := by unfold places; rw [hg]
  rw [hg] at he
  rw [hx, plc, if_pos hp, plc_more l s g _ (p + s) he.next (enough_places l hs (p + s))]
  rfl
theorem places_out {l : List Tok} {s p : Int} (hp : ¬ (0 ≤ p ∧ p ≤ (l.length : Int))) : places l s p = [] := by
  unfold places
  rw [show l.length + 2 + p.natAbs = (l.length + 1 + p.natAbs) + 1 by omega, plc, if_neg hp]
/-- Where a walk of so many text places ends. -/
def mvGo (l : List Tok) (s q k : Int) (m : Nat) : Int := ((places l s k).take m).getLast?.getD q
theorem mv_zero (l : List Tok) (s q k : Int) : mvGo l s q k 0 = q := rfl
theorem mv_out {l : List Tok} {s q k : Int} {m : Nat} (hp : ¬ (0 ≤ k ∧ k ≤ (l.length : Int))) : mvGo l s q k m = q := by
  unfold mvGo
  rw [places_out hp]
  simp
theorem mv_take {l : List Tok} {s q k : Int} {m : Nat} (hs : s = 1 ∨ s = -1) (hp : 0 ≤ k ∧ k ≤ (l.length : Int)) (hm : mayF l k = true) : mvGo l s q k (m + 1) = mvGo l s k (k + s) m := by
  unfold mvGo
  rw [places_in hs hp, if_pos hm, List.take_succ_cons, getLast_cons]
theorem mv_skip {l : List Tok} {s q k : Int} {m : Nat} (hs : s = 1 ∨ s = -1) (hp : 0 ≤ k ∧ k ≤ (l.length : Int)) (hm : mayF l k = false) : mvGo l s q k m = mvGo l s q (k + s) m := by
  unfold mvGo
  rw [places_in hs hp, if_neg (by rw [hm]; decide)]
theorem mv_pos {l : List Tok} {p : Int} {n : Nat} (hn : n ≠ 0) : mvGo l 1 p (p + 1) n = moveV l p n := by
  unfold moveV lastTake mvGo sideOf
  rw [if_neg (by omega), if_neg (by omega), Int.natAbs_natCast]
theorem mv_neg {l : List Tok} {p : Int} {n : Nat} (hn : n ≠ 0) : mvGo l (-1) p (p - 1) n = moveV l p (-(n : Int)) := by
  unfold moveV lastTake mvGo sideOf
  rw [if_neg (by omega), if_pos (by omega), Int.natAbs_neg, Int.natAbs_natCast]
  rfl
set_option maxRecDepth 100000 in
set_option maxHeartbeats 4000000 in
theorem Move11_pos {w : World} {cb : Nat} {F : Nat → Prop} {A : Option Addr} {c : Nat} {l : List Tok} {p : Int} {n : Nat} (h : H6 w cb) (hr : tokR.row w F A l) (hb : l.length ≤ 200) (hlc : l.length ≤ c) (h0 : cmayV l p = 0) (hn : (n : Int) ≤ 9223372036854775807) :
    Calls Tryz.prog 27 #[.pointer (some ⟨cb, 0, none⟩), .slice A l.length c, .int .i64 p, .int .i64 n] w fun r w' => r = .returned (.tuple #[.int .i64 (moveV l p n), .int .i64 0]) ∧ Pure w w' := by
  have HMY := As.mk (may11_calls (c := c) (p := p) h hr (by omega) hlc)
  rw [h0] at HMY
  obtain ⟨ok, hp⟩ := cmay_zero h0
  have HM := As.mk (fun W (hu : Pure w W) q => May6_text (c := c) (h.pure hu) (Rp.row_pure hr hu) hb hlc ok q)
  obtain ⟨pn, rfl⟩ : ∃ pn : Nat, p = pn := ⟨p.toNat, by omega⟩
  have HST := As.mk (show mvGo l 1 pn ((pn + 1 : Nat) : Int) n = moveV l pn n by
    by_cases h9 : n = 0
    · subst h9; rfl
    · exact mv_pos h9)
  generalize moveV l pn n = T at *
  have hw1 : IntKind.i64.wrap ((pn : Int) + 1) = (pn : Int) + 1 := IntWalk.i64_in _ (by omega)
  have hw2 : IntKind.i64.wrap ((pn : Int) - 1) = (pn : Int) - 1 := IntWalk.i64_in _ (by omega)
  have hp2 : pn ≤ l.length := by omega
  clear h hr h0 ok hp
  go_enter Tryz.func27, Tryz.ntmps27
  go_wp2_with (go_at_call 80; refine HMY.out.mono ?_; rintro r w1 ⟨rfl, hu⟩; have HU1 := As.mk hu; clear hu)
  go_loopg [3, 11, 12] (l.length - pn) (fun gg bv qv kv wr => ∃ (k m : Nat) (q : Int), k + gg = l.length + 1 ∧ bv = .int .i64 m ∧ qv = .int .i64 q ∧ kv = .int .i64 k ∧ (m : Int) ≤ 9223372036854775807 ∧ As (mvGo l 1 q k m = T) ∧ As (Pure w wr))
  case atStart => exact ⟨pn + 1, n, pn, by omega, rfl, rfl, by go_num, hn, HST, HU1⟩
  case round =>
    clear HST HU1
    obtain ⟨k, m, q, hk, rfl, rfl, rfl, hm, HT, HP⟩ := hrel
    by_cases hgo : 0 < m ∧ k ≤ l.length
    · obtain ⟨g1, rfl⟩ : ∃ x, gk = x + 1 := ⟨gk - 1, by omega⟩
      obtain ⟨m1, rfl⟩ : ∃ m1, m = m1 + 1 := ⟨m - 1, by omega⟩
      have b1 : decide (((m1 + 1 : Nat) : Int) > 0) = true := decide_eq_true (by omega)
      have b2 : decide (0 < ((m1 + 1 : Nat) : Int)) = true := b1
      have b3 : decide ((k : Int) ≤ (l.length : Int)) = true := decide_eq_true (by omega)
      have b4 : decide (k ≤ l.length) = true := decide_eq_true hgo.2
      have hwk : IntKind.i64.wrap ((k : Int) + 1) = (k : Int) + 1 := IntWalk.i64_in _ (by omega)
      have hwm : IntKind.i64.wrap (((m1 + 1 : Nat) : Int) - 1) = (m1 : Int) := by rw [show ((m1 + 1 : Nat) : Int) - 1 = (m1 : Int) by omega]; exact IntWalk.i64_in _ (by omega)
      have HMK := As.mk (HM.out _ HP.out (k : Int))
      have HK := As.mk hk
      have HMM := As.mk hm
      have HIR := As.mk (show 0 ≤ (k : Int) ∧ (k : Int) ≤ (l.length : Int) by omega)
      generalize hmi : ((m1 + 1 : Nat) : Int) = mi at *
      clear hk hgo hm
      cases mf : mayF l (k : Int)
      · rw [mf] at HMK
        have HT2 := As.mk ((mv_skip (.inl rfl) HIR.out mf).symm.trans HT.out)
        clear mf HT
        have HMI := As.mk hmi
        clear hmi
        go_wp2_with (go_at_call 20; refine HMK.out.mono ?_; rintro r w2 ⟨rfl, hu⟩; have HU2 := As.mk (HP.out.trans hu (fun _ _ h => h)); clear hu)
        go_roundg g1
        case measure => omega
        case rel => exact ⟨k + 1, m1 + 1, q, by have := HK.out; omega, by rw [HMI.out], rfl, by go_num, by have := HMM.out; have := HMI.out; omega, ⟨HT2.out⟩, HU2⟩
      · rw [mf] at HMK
        have HT2 := As.mk ((mv_take (.inl rfl) HIR.out mf).symm.trans HT.out)
        clear mf HT
        have HMI := As.mk hmi
        clear hmi
        go_wp2_with (go_at_call 20; refine HMK.out.mono ?_; rintro r w2 ⟨rfl, hu⟩; have HU2 := As.mk (HP.out.trans hu (fun _ _ h => h)); clear hu)
        go_roundg g1
        case measure => omega
        case rel => exact ⟨k + 1, m1, k, by have := HK.out; omega, rfl, rfl, by go_num, by have := HMM.out; have := HMI.out; omega, ⟨HT2.out⟩, HU2⟩
    · have hq : q = T := by
        rw [← HT.out]
        by_cases h9 : m = 0
        · subst h9; exact (mv_zero _ _ _ _).symm
        · exact (mv_out (by omega)).symm
      have HQ := As.mk hq
      have b0 : decide ((m : Int) < 0) = false := decide_eq_false (by omega)
      cases b1 : decide (0 < (m : Int)) <;> cases b3 : decide ((k : Int) ≤ (l.length : Int))
      all_goals first
        | (exfalso; have h1 := of_decide_eq_true b1; have h3 := of_decide_eq_true b3; exact hgo ⟨by omega, by omega⟩)
        | skip
      all_goals
        have b2 : decide ((m : Int) > 0) = decide (0 < (m : Int)) := rfl
        rw [b1] at b2
        have b4 : decide (k ≤ l.length) = decide ((k : Int) ≤ (l.length : Int)) := by simp
        rw [b3] at b4
        clear HT hgo hq
        generalize (m : Int) = mi at *
        go_wp2
        go_loopg [3, 11, 13] 1 (fun gg bv qv kv wr => bv = .int .i64 mi ∧ qv = .int .i64 q ∧ As (Pure w wr))
        case atStart => exact ⟨rfl, rfl, HP⟩
        case round =>
          obtain ⟨rfl, rfl, HP⟩ := hrel
          go_wp2
          exact bodyPost_ret (results_tmp2 rfl _ _ _) rfl ⟨by rw [← HQ.out]; rfl, HP.out⟩
set_option maxRecDepth 100000 in
set_option maxHeartbeats 4000000 in
theorem Move11_neg {w : World} {cb : Nat} {F : Nat → Prop} {A : Option Addr} {c : Nat} {l : List Tok} {p : Int} {n : Nat} (h : H6 w cb) (hr : tokR.row w F A l) (hb : l.length ≤ 200) (hlc : l.length ≤ c) (h0 : cmayV l p = 0) (hn : (n : Int) ≤ 9223372036854775808) (hn0 : n ≠ 0) :
    Calls Tryz.prog 27 #[.pointer (some ⟨cb, 0, none⟩), .slice A l.length c, .int .i64 p, .int .i64 (-(n : Int))] w fun r w' => r = .returned (.tuple #[.int .i64 (moveV l p (-(n : Int))), .int .i64 0]) ∧ Pure w w' := by
  have HMY := As.mk (may11_calls (c := c) (p := p) h hr (by omega) hlc)
  rw [h0] at HMY
  obtain ⟨ok, hp⟩ := cmay_zero h0
  have HM := As.mk (fun W (hu : Pure w W) q => May6_text (c := c) (h.pure hu) (Rp.row_pure hr hu) hb hlc ok q)
  obtain ⟨pn, rfl⟩ : ∃ pn : Nat, p = pn := ⟨p.toNat, by omega⟩
  have HST := As.mk (show mvGo l (-1) pn ((pn : Int) - 1) n = moveV l pn (-(n : Int)) from mv_neg hn0)
  generalize moveV l pn (-(n : Int)) = T at *
  have hw1 : IntKind.i64.wrap ((pn : Int) + 1) = (pn : Int) + 1 := IntWalk.i64_in _ (by omega)
  have hw2 : IntKind.i64.wrap ((pn : Int) - 1) = (pn : Int) - 1 := IntWalk.i64_in _ (by omega)
  have hp2 : pn ≤ l.length := by omega
  have HNI := As.mk (show -(n : Int) = -(n : Int) from rfl)
  have b1 : decide (-(n : Int) > 0) = false := decide_eq_false (by omega)
  have b2 : decide (0 < -(n : Int)) = false := b1
  generalize hni : -(n : Int) = ni at *
  clear HNI
  have HNI := As.mk hni
  clear h hr h0 ok hp hni
  go_enter Tryz.func27, Tryz.ntmps27
  go_wp2_with (go_at_call 80; refine HMY.out.mono ?_; rintro r w1 ⟨rfl, hu⟩; have HU1 := As.mk hu; clear hu)
  go_loopg [3, 11, 12] 1 (fun gg bv qv kv wr => bv = .int .i64 ni ∧ qv = .int .i64 pn ∧ As (Pure w wr))
  case atStart => exact ⟨rfl, rfl, HU1⟩
  case round =>
    clear HU1
    obtain ⟨rfl, rfl, HU1⟩ := hrel
    go_wp2
    go_loopg [3, 11, 13] pn (fun gg bv qv kv wr => ∃ (m : Nat) (q bi : Int), bv = .int .i64 bi ∧ As (bi = -(m : Int)) ∧ qv = .int .i64 q ∧ kv = .int .i64 ((gg : Int) - 1) ∧ gg ≤ l.length ∧ (m : Int) ≤ 9223372036854775808 ∧ As (mvGo l (-1) q ((gg : Int) - 1) m = T) ∧ As (Pure w wr))
    case atStart => exact ⟨n, pn, ni, rfl, ⟨HNI.out.symm⟩, rfl, rfl, hp2, hn, HST, HU1⟩
    case round =>
      clear HST HU1
      obtain ⟨m, q, bi, rfl, HBI, rfl, rfl, hg, hm, HT, HP⟩ := hrel
      by_cases hgo : 0 < m ∧ 0 < gk
      · obtain ⟨g1, rfl⟩ : ∃ x, gk = x + 1 := ⟨gk - 1, by omega⟩
        obtain ⟨m1, rfl⟩ : ∃ m1, m = m1 + 1 := ⟨m - 1, by omega⟩
        have hk : ((g1 + 1 : Nat) : Int) - 1 = (g1 : Int) := by omega
        rw [hk] at HT
        have b3 : decide (bi < 0) = true := decide_eq_true (by have := HBI.out; omega)
        have b5 : decide ((g1 : Int) ≥ 0) = true := decide_eq_true (by omega)
        have b6 : decide (0 ≤ (g1 : Int)) = true := b5
        have hwk : IntKind.i64.wrap ((g1 : Int) - 1) = (g1 : Int) - 1 := IntWalk.i64_in _ (by omega)
        have hwm : IntKind.i64.wrap (bi + 1) = bi + 1 := IntWalk.i64_in _ (by have := HBI.out; omega)
        have HMK := As.mk (HM.out _ HP.out (g1 : Int))
        have HMM := As.mk hm
        have HG := As.mk hg
        have HIR := As.mk (show 0 ≤ (g1 : Int) ∧ (g1 : Int) ≤ (l.length : Int) by omega)
        clear hgo hm hg
        cases mf : mayF l (g1 : Int)
        · rw [mf] at HMK
          have HT2 := As.mk ((mv_skip (.inr rfl) HIR.out mf).symm.trans HT.out)
          clear mf HT
          rw [hk]
          clear hk
          go_wp2_with (go_at_call 20; refine HMK.out.mono ?_; rintro r w2 ⟨rfl, hu⟩; have HU2 := As.mk (HP.out.trans hu (fun _ _ h => h)); clear hu)
          go_roundg g1
          case measure => omega
          case rel => exact ⟨m1 + 1, q, bi, rfl, HBI, rfl, rfl, by have := HG.out; omega, HMM.out, ⟨HT2.out⟩, HU2⟩
        · rw [mf] at HMK
          have HT2 := As.mk ((mv_take (.inr rfl) HIR.out mf).symm.trans HT.out)
          clear mf HT
          rw [hk]
          clear hk
          go_wp2_with (go_at_call 20; refine HMK.out.mono ?_; rintro r w2 ⟨rfl, hu⟩; have HU2 := As.mk (HP.out.trans hu (fun _ _ h => h)); clear hu)
          go_roundg g1
          case measure => omega
          case rel => exact ⟨m1, g1, bi + 1, rfl, ⟨by have := HBI.out; omega⟩, rfl, rfl, by have := HG.out; omega, by have := HMM.out; omega, ⟨HT2.out⟩, HU2⟩
      · have hq : q = T := by
          rw [← HT.out]
          by_cases h9 : m = 0
          · subst h9; exact (mv_zero _ _ _ _).symm
          · exact (mv_out (by omega)).symm
        have HQ := As.mk hq
        have hb0 : bi < 0 ↔ 0 < m := by have := HBI.out; omega
        have hk0 : (0 ≤ (gk : Int) - 1) ↔ 0 < gk := by omega
        generalize (gk : Int) - 1 = ki at *
        cases b3 : decide (bi < 0) <;> cases b5 : decide (0 ≤ ki)
        all_goals first
          | (exfalso; exact hgo ⟨hb0.1 (of_decide_eq_true b3), hk0.1 (of_decide_eq_true b5)⟩)
          | skip
        all_goals
          have b6 : decide (ki ≥ 0) = decide (0 ≤ ki) := rfl
          rw [b5] at b6
          clear HT hgo hq hb0 hk0
          go_wp2
          exact bodyPost_ret (results_tmp2 rfl _ _ _) rfl ⟨by rw [← HQ.out]; rfl, HP.out⟩
set_option maxRecDepth 100000 in
set_option maxHeartbeats 4000000 in
theorem Move11_no {w : World} {cb : Nat} {F : Nat → Prop} {A : Option Addr} {c : Nat} {l : List Tok} {p n : Int} (h : H6 w cb) (hr : tokR.row w F A l) (hb : l.length ≤ 200) (hlc : l.length ≤ c) (h0 : cmayV l p ≠ 0) :
    Calls Tryz.prog 27 #[.pointer (some ⟨cb, 0, none⟩), .slice A l.length c, .int .i64 p, .int .i64 n] w fun r w' => r = .returned (.tuple #[.int .i64 0, .int .i64 (cmayV l p)]) ∧ Pure w w' := by
  have HMY := As.mk (may11_calls (c := c) (p := p) h hr (by omega) hlc)
  have h1 : (cmayV l p != 0) = true := by simpa using h0
  generalize cmayV l p = e at *
  clear h hr h0
  go_enter Tryz.func27, Tryz.ntmps27
  go_wp2_with (go_at_call 80; refine HMY.out.mono ?_; rintro r w1 ⟨rfl, hu⟩; have HU1 := As.mk hu; clear hu)
  exact bodyPost_ret (results_tmp2 rfl _ _ _) rfl ⟨rfl, HU1.out⟩
theorem Move11_calls {w : World} {cb : Nat} {F : Nat → Prop} {A : Option Addr} {c : Nat} {l : List Tok} {p n : Int} (h : H6 w cb) (hr : tokR.row w F A l) (hb : l.length ≤ 200) (hlc : l.length ≤ c) (hn2 : -9223372036854775808 ≤ n ∧ n ≤ 9223372036854775807) :
    Calls Tryz.prog 27 #[.pointer (some ⟨cb, 0, none⟩), .slice A l.length c, .int .i64 p, .int .i64 n] w fun r w' => r = .returned (.tuple #[.int .i64 (moveR l p n).1, .int .i64 (moveR l p n).2]) ∧ Pure w w' := by
  unfold moveR
  by_cases h0 : cmayV l p = 0
  · rw [if_neg (by omega)]
    by_cases hs : 0 ≤ n
    · obtain ⟨m, rfl⟩ : ∃ m : Nat, n = m := ⟨n.toNat, by omega⟩
      exact Move11_pos h hr hb hlc h0 (by omega)
    · obtain ⟨m, rfl⟩ : ∃ m : Nat, n = -(m : Int) := ⟨(-n).toNat, by omega⟩
      exact Move11_neg h hr hb hlc h0 (by omega) (by omega)
  · rw [if_pos h0]
    exact Move11_no h hr hb hlc h0
end Go.Proofs.YtofjodppljnlaaaGreatDoor
namespace Go.Proofs.YtofjodppljnlaaaGreatDoor
open Go.RowKit
set_option linter.unusedVariables false
set_option linter.unusedSimpArgs false
/-- A text that is read, up to a place. -/
def PB (w : World) (tb : Nat) (s : ByteArray) (k : Nat) : Prop := w.heap[tb]? = some (.cells #[.string s, .int .i64 k, .bool false] 262 (0, 0))
theorem PB.pure {w w1 : World} {tb : Nat} {s : ByteArray} {k : Nat} (h : PB w tb s k) (hu : Pure w w1) : PB w1 tb s k := (hu.block _ (Array.getElem?_eq_some_iff.1 h).1 (fun h => h)).trans h
theorem PB.cells {w : World} {tb : Nat} {s : ByteArray} {k : Nat} (h : PB w tb s k) : (w.cell? ⟨tb, 0, none⟩ = some (.string s) ∧ w.cell? ⟨tb, 1, none⟩ = some (.int .i64 k) ∧ w.cell? ⟨tb, 2, none⟩ = some (.bool false)) ∧ w.frozen? ⟨tb, 1, none⟩ = false ∧ tb < w.heap.size := by
  have h' : w.heap[tb]? = some (.cells #[.string s, .int .i64 k, .bool false] 262 (0, 0)) := h
  refine ⟨⟨?_, ?_, ?_⟩, ?_, (Array.getElem?_eq_some_iff.1 h).1⟩
  · unfold World.cell?; simp only [h']; rfl
  · unfold World.cell?; simp only [h']; rfl
  · unfold World.cell?; simp only [h']; rfl
  · simp [World.frozen?, h']
theorem PB.set {w : World} {tb : Nat} {s : ByteArray} {k : Nat} (h : PB w tb s k) (m : Nat) : PB (w.setCell ⟨tb, 1, none⟩ (.int .i64 m)) tb s m := by
  have h' : w.heap[tb]? = some (.cells #[.string s, .int .i64 k, .bool false] 262 (0, 0)) := h
  unfold PB
  simp [World.setCell, Array.getElem?_modify, h']
set_option maxRecDepth 100000 in
set_option maxHeartbeats 4000000 in
theorem peek_end {w : World} {tb : Nat} {s : ByteArray} (h : PB w tb s s.size) (hs : s.size ≤ 1000) :
    Calls Tryz.prog 191 #[.pointer (some ⟨tb, 0, none⟩)] w fun r w' => r = .returned (.int .u8 0) ∧ Pure w w' := by
  have HT := As.mk h
  have hlt : ¬ ((s.size : Int) < (s.size : Int)) := by omega
  have hlt2 : decide (s.size < s.size) = false := by simp
  have heq2 : (s.size == s.size) = true := by simp
  clear h
  go_enter Tryz.func191, Tryz.ntmps191
  go_wp2
  go_loopg [] 0 (fun g wr => As (wr = w))
  case atStart => exact ⟨rfl⟩
  case round =>
    obtain rfl := hrel.out
    obtain ⟨⟨c0, c1, c2⟩, f1, htb⟩ := HT.out.cells
    have c0d : wr.drew.cell? ⟨tb, 0, none⟩ = some (.string s) := c0
    have c1d : wr.drew.cell? ⟨tb, 1, none⟩ = some (.int .i64 s.size) := c1
    have c2d : wr.drew.cell? ⟨tb, 2, none⟩ = some (.bool false) := c2
    go_wp2
    refine wp_region_held_drew (S := (fun v => v.cell? ⟨tb, 0, none⟩ = some (.string s) ∧ v.cell? ⟨tb, 1, none⟩ = some (.int .i64 s.size) ∧ v.cell? ⟨tb, 2, none⟩ = some (.bool false))) (by kernel_rfl) ?_ (fun hHeld => ?_)
    · exact ⟨c0d, c1d, c2d⟩
    refine zH 0 ?_
    (try simp only [Act.put, sA, sB, sC])
    refine zH 1 ?_
    (try simp only [Act.put, sA, sB, sC])
    refine zH 2 ?_
    (try simp only [Act.put, sA, sB, sC])
    refine zH 3 ?_
    (try simp only [Act.put, sA, sB, sC])
    refine zH 4 ?_
    (try simp only [Act.put, sA, sB, sC])
    refine zH 5 ?_
    (try simp only [Act.put, sA, sB, sC])
    refine zH 6 ?_
    (try simp only [Act.put, sA, sB, sC])
    refine zH 7 ?_
    (try simp only [Act.put, sA, sB, sC])
    refine zH 8 ?_
    (try simp only [Act.put, sA, sB, sC])
    refine zH 9 ?_
    (try simp only [Act.put, sA, sB, sC])
    refine zH 10 ?_
    (try simp only [Act.put, sA, sB, sC])
    refine wpAnyH_take (i := 11) (oi := { dst := (some 14), op := (Go.Op.move (Go.Operand.tmp 0)), type := 260, pos := "ref.go:100", after := #[{ on := 10, ground := Go.Ground.guard }], guard := (some (10, true)) }) (v := undef) rfl (by kernel_rfl) (by kernel_rfl) (by kernel_rfl) (fun _ _ _ h => h) (Or.inr ⟨by rfl, rfl⟩) (by assumption) ?_
    (try simp only [Act.put, sA, sB, sC])
    refine wpAnyH_take (i := 12) (oi := { dst := (some 15), op := (Go.Op.nilCheck (Go.Operand.tmp 14)), type := 0, pos := "ref.go:100", after := #[{ on := 11, ground := Go.Ground.data }, { on := 10, ground := Go.Ground.guard }], guard := (some (10, true)) }) (v := undef) rfl (by kernel_rfl) (by kernel_rfl) (by kernel_rfl) (fun _ _ _ h => h) (Or.inr ⟨by rfl, rfl⟩) (by assumption) ?_
    (try simp only [Act.put, sA, sB, sC])
    refine wpAnyH_take (i := 13) (oi := { dst := (some 16), op := (Go.Op.fieldAddr 262 (Go.Operand.tmp 15) 0), type := 0, pos := "ref.go:100", after := #[{ on := 12, ground := Go.Ground.data }, { on := 10, ground := Go.Ground.guard }], guard := (some (10, true)) }) (v := undef) rfl (by kernel_rfl) (by kernel_rfl) (by kernel_rfl) (fun _ _ _ h => h) (Or.inr ⟨by rfl, rfl⟩) (by assumption) ?_
    (try simp only [Act.put, sA, sB, sC])
    refine wpAnyH_take (i := 14) (oi := { dst := (some 17), op := (Go.Op.load 9 (Go.Operand.tmp 16)), type := 9, pos := "ref.go:100", after := #[{ on := 13, ground := Go.Ground.data }, { on := 10, ground := Go.Ground.guard }], guard := (some (10, true)) }) (v := undef) rfl (by kernel_rfl) (by kernel_rfl) (by kernel_rfl) (fun _ _ _ h => h) (Or.inr ⟨by rfl, rfl⟩) (by assumption) ?_
    (try simp only [Act.put, sA, sB, sC])
    refine wpAnyH_take (i := 15) (oi := { dst := (some 18), op := (Go.Op.move (Go.Operand.tmp 0)), type := 260, pos := "ref.go:100", after := #[{ on := 10, ground := Go.Ground.guard }], guard := (some (10, true)) }) (v := undef) rfl (by kernel_rfl) (by kernel_rfl) (by kernel_rfl) (fun _ _ _ h => h) (Or.inr ⟨by rfl, rfl⟩) (by assumption) ?_
    (try simp only [Act.put, sA, sB, sC])
    refine wpAnyH_take (i := 16) (oi := { dst := (some 19), op := (Go.Op.nilCheck (Go.Operand.tmp 18)), type := 0, pos := "ref.go:100", after := #[{ on := 15, ground := Go.Ground.data }, { on := 10, ground := Go.Ground.guard }], guard := (some (10, true)) }) (v := undef) rfl (by kernel_rfl) (by kernel_rfl) (by kernel_rfl) (fun _ _ _ h => h) (Or.inr ⟨by rfl, rfl⟩) (by assumption) ?_
    (try simp only [Act.put, sA, sB, sC])
    refine wpAnyH_take (i := 17) (oi := { dst := (some 20), op := (Go.Op.fieldAddr 262 (Go.Operand.tmp 19) 1), type := 0, pos := "ref.go:100", after := #[{ on := 16, ground := Go.Ground.data }, { on := 10, ground := Go.Ground.guard }], guard := (some (10, true)) }) (v := undef) rfl (by kernel_rfl) (by kernel_rfl) (by kernel_rfl) (fun _ _ _ h => h) (Or.inr ⟨by rfl, rfl⟩) (by assumption) ?_
    (try simp only [Act.put, sA, sB, sC])
    refine wpAnyH_take (i := 18) (oi := { dst := (some 21), op := (Go.Op.load 3 (Go.Operand.tmp 20)), type := 3, pos := "ref.go:100", after := #[{ on := 17, ground := Go.Ground.data }, { on := 10, ground := Go.Ground.guard }], guard := (some (10, true)) }) (v := undef) rfl (by kernel_rfl) (by kernel_rfl) (by kernel_rfl) (fun _ _ _ h => h) (Or.inr ⟨by rfl, rfl⟩) (by assumption) ?_
    (try simp only [Act.put, sA, sB, sC])
    refine wpAnyH_take (i := 19) (oi := { dst := (some 22), op := (Go.Op.index 9 (Go.Operand.tmp 17) (Go.Operand.tmp 21)), type := 5, pos := "ref.go:100", after := #[{ on := 14, ground := Go.Ground.data }, { on := 18, ground := Go.Ground.data }, { on := 10, ground := Go.Ground.guard }], guard := (some (10, true)) }) (v := undef) rfl (by kernel_rfl) (by kernel_rfl) (by kernel_rfl) (fun _ _ _ h => h) (Or.inr ⟨by rfl, rfl⟩) (by assumption) ?_
    (try simp only [Act.put, sA, sB, sC])
    refine wpAnyH_take (i := 20) (oi := { dst := (some 23), op := (Go.Op.binOp Go.BinOp.eql 5 (Go.Operand.tmp 22) (Go.Operand.const (Go.Value.int Go.IntKind.u8 32)) 5), type := 4, pos := "ref.go:100", after := #[{ on := 19, ground := Go.Ground.data }, { on := 10, ground := Go.Ground.guard }], guard := (some (10, true)) }) (v := undef) rfl (by kernel_rfl) (by kernel_rfl) (by kernel_rfl) (fun _ _ _ h => h) (Or.inr ⟨by rfl, rfl⟩) (by assumption) ?_
    (try simp only [Act.put, sA, sB, sC])
    refine zH 21 ?_
    (try simp only [Act.put, sA, sB, sC])
    refine wpAnyH_done (by kernel_rfl) ?_ _
    go_wp2
    refine wp_region_held_drew (S := (fun v => v.cell? ⟨tb, 0, none⟩ = some (.string s) ∧ v.cell? ⟨tb, 1, none⟩ = some (.int .i64 s.size) ∧ v.cell? ⟨tb, 2, none⟩ = some (.bool false))) (by kernel_rfl) ?_ (fun hHeld => ?_)
    · exact ⟨c0d, c1d, c2d⟩
    refine zH 0 ?_
    (try simp only [Act.put, sA, sB, sC])
    refine zH 1 ?_
    (try simp only [Act.put, sA, sB, sC])
    refine zH 2 ?_
    (try simp only [Act.put, sA, sB, sC])
    refine zH 3 ?_
    (try simp only [Act.put, sA, sB, sC])
    refine zH 4 ?_
    (try simp only [Act.put, sA, sB, sC])
    refine zH 5 ?_
    (try simp only [Act.put, sA, sB, sC])
    refine zH 6 ?_
    (try simp only [Act.put, sA, sB, sC])
    refine zH 7 ?_
    (try simp only [Act.put, sA, sB, sC])
    refine zH 8 ?_
    (try simp only [Act.put, sA, sB, sC])
    refine zH 9 ?_
    (try simp only [Act.put, sA, sB, sC])
    refine zH 10 ?_
    (try simp only [Act.put, sA, sB, sC])
    refine zH 11 ?_
    (try simp only [Act.put, sA, sB, sC])
    refine zH 12 ?_
    (try simp only [Act.put, sA, sB, sC])
    refine zH 13 ?_
    (try simp only [Act.put, sA, sB, sC])
    refine zH 14 ?_
    (try simp only [Act.put, sA, sB, sC])
    refine zH 15 ?_
    (try simp only [Act.put, sA, sB, sC])
    refine wpAnyH_done (by kernel_rfl) ?_ _
    go_wp2
    go_ret
    exact ⟨rfl, ((Upd.refl _ _).drew).drew⟩
set_option maxRecDepth 100000 in
set_option maxHeartbeats 4000000 in
theorem peek_at {w : World} {tb k : Nat} {s : ByteArray} (h : PB w tb s k) (hk : k < s.size) (h32 : (s[k] == 32) = false) (h0 : 1 ≤ s[k].toNat) (hs : s.size ≤ 1000) :
    Calls Tryz.prog 191 #[.pointer (some ⟨tb, 0, none⟩)] w fun r w' => r = .returned (.int .u8 s[k].toNat) ∧ Pure w w' := by
  have HT := As.mk h
  have hlt : ((k : Int) < (s.size : Int)) := by omega
  have hlt2 : decide (k < s.size) = true := by simp; exact hk
  have hlt3 : decide ((k : Int) < (s.size : Int)) = true := by simp; omega
  have heq2 : (k == s.size) = false := by simp; omega
  have heq3 : ((k : Int) == (s.size : Int)) = false := by simp; omega
  have hb1 : ((s[k].toNat : Int) == 32) = false := by
    have : s[k] ≠ 32 := by simpa using h32
    simp
    intro h
    apply this
    apply UInt8.toNat_inj.1
    have : s[k].toNat = 32 := by omega
    rw [this]; rfl
  have hb2 : (s[k].toNat == 32) = false := by
    simp at hb1 ⊢
    omega
  have hmx : max (s[k].toNat : Int) 1 = (s[k].toNat : Int) := by omega
  clear h
  go_enter Tryz.func191, Tryz.ntmps191
  go_wp2
  go_loopg [] 0 (fun g wr => As (wr = w))
  case atStart => exact ⟨rfl⟩
  case round =>
    obtain rfl := hrel.out
    obtain ⟨⟨c0, c1, c2⟩, f1, htb⟩ := HT.out.cells
    have c0d : wr.drew.cell? ⟨tb, 0, none⟩ = some (.string s) := c0
    have c1d : wr.drew.cell? ⟨tb, 1, none⟩ = some (.int .i64 k) := c1
    have c2d : wr.drew.cell? ⟨tb, 2, none⟩ = some (.bool false) := c2
    go_wp2
    refine wp_region_held_drew (S := (fun v => v.cell? ⟨tb, 0, none⟩ = some (.string s) ∧ v.cell? ⟨tb, 1, none⟩ = some (.int .i64 k) ∧ v.cell? ⟨tb, 2, none⟩ = some (.bool false))) (by kernel_rfl) ?_ (fun hHeld => ?_)
    · exact ⟨c0d, c1d, c2d⟩
    refine zH 0 ?_
    (try simp only [Act.put, sA, sB, sC])
    refine zH 1 ?_
    (try simp only [Act.put, sA, sB, sC])
    refine zH 2 ?_
    (try simp only [Act.put, sA, sB, sC])
    refine zH 3 ?_
    (try simp only [Act.put, sA, sB, sC])
    refine zH 4 ?_
    (try simp only [Act.put, sA, sB, sC])
    refine zH 5 ?_
    (try simp only [Act.put, sA, sB, sC])
    refine zH 6 ?_
    (try simp only [Act.put, sA, sB, sC])
    refine zH 7 ?_
    (try simp only [Act.put, sA, sB, sC])
    refine zH 8 ?_
    (try simp only [Act.put, sA, sB, sC])
    refine zH 9 ?_
    (try simp only [Act.put, sA, sB, sC])
    refine zH 10 ?_
    (try simp only [Act.put, sA, sB, sC])
    refine zH 11 ?_
    (try simp only [Act.put, sA, sB, sC])
    refine zH 12 ?_
    (try simp only [Act.put, sA, sB, sC])
    refine zH 13 ?_
    (try simp only [Act.put, sA, sB, sC])
    refine zH 14 ?_
    (try simp only [Act.put, sA, sB, sC])
    refine zH 15 ?_
    (try simp only [Act.put, sA, sB, sC])
    refine zH 16 ?_
    (try simp only [Act.put, sA, sB, sC])
    refine zH 17 ?_
    (try simp only [Act.put, sA, sB, sC])
    refine zH 18 ?_
    (try simp only [Act.put, sA, sB, sC])
    refine zH 19 ?_
    (try simp only [Act.put, sA, sB, sC])
    refine zH 20 ?_
    (try simp only [Act.put, sA, sB, sC])
    refine zH 21 ?_
    (try simp only [Act.put, sA, sB, sC])
    refine wpAnyH_done (by kernel_rfl) ?_ _
    go_wp2
    refine wp_region_held_drew (S := (fun v => v.cell? ⟨tb, 0, none⟩ = some (.string s) ∧ v.cell? ⟨tb, 1, none⟩ = some (.int .i64 k) ∧ v.cell? ⟨tb, 2, none⟩ = some (.bool false))) (by kernel_rfl) ?_ (fun hHeld => ?_)
    · exact ⟨c0d, c1d, c2d⟩
    refine zH 0 ?_
    (try simp only [Act.put, sA, sB, sC])
    refine zH 1 ?_
    (try simp only [Act.put, sA, sB, sC])
    refine zH 2 ?_
    (try simp only [Act.put, sA, sB, sC])
    refine zH 3 ?_
    (try simp only [Act.put, sA, sB, sC])
    refine zH 4 ?_
    (try simp only [Act.put, sA, sB, sC])
    refine zH 5 ?_
    (try simp only [Act.put, sA, sB, sC])
    refine zH 6 ?_
    (try simp only [Act.put, sA, sB, sC])
    refine zH 7 ?_
    (try simp only [Act.put, sA, sB, sC])
    refine zH 8 ?_
    (try simp only [Act.put, sA, sB, sC])
    refine zH 9 ?_
    (try simp only [Act.put, sA, sB, sC])
    refine zH 10 ?_
    (try simp only [Act.put, sA, sB, sC])
    refine zH 11 ?_
    (try simp only [Act.put, sA, sB, sC])
    refine zH 12 ?_
    (try simp only [Act.put, sA, sB, sC])
    refine zH 13 ?_
    (try simp only [Act.put, sA, sB, sC])
    refine zH 14 ?_
    (try simp only [Act.put, sA, sB, sC])
    refine zH 15 ?_
    (try simp only [Act.put, sA, sB, sC])
    refine wpAnyH_done (by kernel_rfl) ?_ _
    go_wp2
    refine wp_region_held_drew (S := (fun v => v.cell? ⟨tb, 0, none⟩ = some (.string s) ∧ v.cell? ⟨tb, 1, none⟩ = some (.int .i64 k) ∧ v.cell? ⟨tb, 2, none⟩ = some (.bool false))) (by kernel_rfl) ?_ (fun hHeld => ?_)
    · exact ⟨c0d, c1d, c2d⟩
    refine zH 0 ?_
    (try simp only [Act.put, sA, sB, sC])
    refine zH 1 ?_
    (try simp only [Act.put, sA, sB, sC])
    refine zH 2 ?_
    (try simp only [Act.put, sA, sB, sC])
    refine zH 3 ?_
    (try simp only [Act.put, sA, sB, sC])
    refine zH 4 ?_
    (try simp only [Act.put, sA, sB, sC])
    refine zH 5 ?_
    (try simp only [Act.put, sA, sB, sC])
    refine zH 6 ?_
    (try simp only [Act.put, sA, sB, sC])
    refine zH 7 ?_
    (try simp only [Act.put, sA, sB, sC])
    refine zH 8 ?_
    (try simp only [Act.put, sA, sB, sC])
    refine zH 9 ?_
    (try simp only [Act.put, sA, sB, sC])
    refine zH 10 ?_
    (try simp only [Act.put, sA, sB, sC])
    refine wpAnyH_done (by kernel_rfl) ?_ _
    go_wp2
    go_ret
    exact ⟨rfl, (((Upd.refl _ _).drew).drew).drew⟩
/-- The letters of a name with a sign. -/
theorem name_letters {s : ByteArray} {m : Nat} {kk : Int} (hn : NameSign s m kk) (i : Nat) (hi : i < m) (h : i < s.size) : 97 ≤ (s[i]'h).toNat ∧ (s[i]'h).toNat ≤ 122 := by
  have h1 := hn.nm.in_ i (Nat.zero_le _) hi
  unfold nameB at h1
  rw [Bool.and_eq_true, List.all_eq_true] at h1
  have h2 := h1.1 (s[i]'h) (by
    have e : (s.extract i (i + 1)).data = s.data.extract i (i + 1) := by
      rw [ByteArray.data_extract]
    have h' : i < s.data.size := h
    rw [e]
    have : (s.data.extract i (i + 1)).toList = [s.data[i]] := by
      rw [Array.toList_extract]
      simp only [List.extract, Nat.add_sub_cancel_left]
      rw [List.drop_eq_getElem_cons (by simpa using h')]
      simp
    rw [this]
    simp
    rfl)
  simpa [lettB] using h2
end Go.Proofs.YtofjodppljnlaaaGreatDoor
