/- emenderlaw06.RegOpt. -/
import Derived.Test.YtchgeaklaeoplaaLaw6
import Derived.Test.YtchgeaklaeoplaaSigns
namespace Go.Proofs.Ytchgeaklaeoplaa
open Go.RowKit
set_option linter.unusedVariables false
set_option linter.unusedSimpArgs false

theorem Rp.own_empty {α : Type} (d : Rp α) {e : Nat} {w : World} {F : Nat → Prop} {b : Nat} (hb : w.heap[b]? = some (.cells #[] e (0, 0))) (hF : F b) : d.own e w F (.slice (some ⟨b, 0, none⟩) 0 0) [] :=
  ⟨[], ⟨by simp, .inr ⟨b, 0, #[], rfl, Nat.zero_le _, hb, Nat.le_refl _, Nat.zero_le _, by simp, by simp⟩⟩, fun k hk => by simp [Value.ownBlock] at hk; subst hk; exact hF, Reps.nil _ _⟩
/-- A tree with one part, laid in a block of its own. -/
theorem MadeC.one {w : World} {A Bg : Option Addr} {e : Ex} {g : List Grp} {b c : Nat} (k : Int) (h : MadeC w A Bg e g) (hw : e.wt ≤ 1048576) (hc : e.l.length ≤ c) (hb : w.heap[b]? = some (.cells #[.int .i64 e.k, .string e.name, .slice A e.l.length c] 24 (0, 0))) : MadeC w (some ⟨b, 0, none⟩) Bg (.mk k noName [e]) g := by
  refine ⟨?_, h.hg, ?_, h.gl, h.gt⟩
  · have hr : ExRep w (fun k => k < w.heap.size) e [.int .i64 e.k, .string e.name, .slice A e.l.length c] := by
      obtain ⟨k0, nm, l⟩ := e
      exact ExRep.of_parts hc h.hr
    exact Rp.row_of_block hb (Array.getElem?_eq_some_iff.1 hb).1 (Reps.single (R := exR.rep _ _) (size := exR.sz) hr rfl)
  · have e0 : noName.size = 0 := rfl
    simp only [Ex.wt, Ex.wts, e0]
    omega

theorem heap_at_alloc (w : World) (o : Obj) (k : Nat) : (w.alloc o).heap[k]? = if k = w.heap.size then some o else w.heap[k]? := by
  by_cases h : k = w.heap.size
  · subst h
    rw [if_pos rfl]
    exact heap_alloc_new w o
  · rw [if_neg h]
    by_cases h2 : k < w.heap.size
    · exact Below.heap_alloc w o k h2
    · rw [Array.getElem?_eq_none (by simp; omega), Array.getElem?_eq_none (by omega)]
/-- The four trees of the law, where they lie. -/
structure OptB (W : World) (k0 : Int) (nm : ByteArray) (l : List Ex) (A : Option Addr) (c n0 n : Nat) : Prop where
  e : W.heap[n0]? = some (.cells #[.int .i64 k0, .string nm, .slice A l.length c] 24 (0, 0))
  o0 : W.heap[n]? = some (.cells #[.int .i64 k0, .string nm, .slice A l.length c] 24 (0, 0))
  o1 : W.heap[n + 1]? = some (.cells #[.int .i64 6, .string noName, .slice (some ⟨n, 0, none⟩) 1 1] 24 (0, 0))
  s0 : W.heap[n + 1 + 1]? = some (.cells #[.int .i64 k0, .string nm, .slice A l.length c] 24 (0, 0))
  s1 : W.heap[n + 1 + 1 + 1]? = some (.cells #[.int .i64 4, .string noName, .slice (some ⟨n + 1 + 1, 0, none⟩) 1 1] 24 (0, 0))
  p0 : W.heap[n + 1 + 1 + 1 + 1]? = some (.cells #[.int .i64 k0, .string nm, .slice A l.length c] 24 (0, 0))
  p1 : W.heap[n + 1 + 1 + 1 + 1 + 1]? = some (.cells #[.int .i64 5, .string noName, .slice (some ⟨n + 1 + 1 + 1 + 1, 0, none⟩) 1 1] 24 (0, 0))
theorem OptB.pure {W W1 : World} {k0 : Int} {nm : ByteArray} {l : List Ex} {A : Option Addr} {c n0 n : Nat} (h : OptB W k0 nm l A c n0 n) (hu : Pure W W1) : OptB W1 k0 nm l A c n0 n := by
  have hk : ∀ {b : Nat} {o : Obj}, W.heap[b]? = some o → W1.heap[b]? = some o := fun hb => (hu.block _ (Array.getElem?_eq_some_iff.1 hb).1 (fun h => h)).trans hb
  exact ⟨hk h.e, hk h.o0, hk h.o1, hk h.s0, hk h.s1, hk h.p0, hk h.p1⟩

set_option maxRecDepth 100000 in
set_option maxHeartbeats 4000000 in
theorem RegOpt_walk {w : World} {A Bg Aa Ab : Option Addr} {c d ca cb : Nat} {e : Ex} {g : List Grp} {a b : List Int} (hm : MadeC w A Bg e g) (hc : e.l.length ≤ c) (hw : e.wt ≤ 1048576) (ha : intR.row w (fun k => k < w.heap.size) Aa a) (hb : intR.row w (fun k => k < w.heap.size) Ab b) (hal : a.length ≤ 1048576) (hbl : b.length ≤ 1048576) :
    Calls Try.prog 3 #[e.val A c, .slice Bg g.length d, .slice Aa a.length ca, .slice Ab b.length cb] w fun r w' => r = .returned (.bool true) ∧ Pure w w' := by
  obtain ⟨k0, nm, l⟩ := e
  have hE := heap_alloc_new w (.cells #[.int .i64 k0, .string nm, .slice A l.length c] 24)
  obtain ⟨⟨x0, x1, x2⟩, _, _, _, _⟩ := cells3 hE
  have hp0 : Pure w (w.alloc (.cells #[.int .i64 k0, .string nm, .slice A l.length c] 24)) := Upd.alloc1 _ _ _
  have hp1 : Pure w ((w.alloc (.cells #[.int .i64 k0, .string nm, .slice A l.length c] 24)).alloc (.cells #[.int .i64 k0, .string nm, .slice A l.length c] 24)) := hp0.alloc _
  have hz1 : (w.alloc (.cells #[.int .i64 k0, .string nm, .slice A l.length c] 24)).heap.size = w.heap.size + 1 := by simp
  have hE1 := heap_alloc_new (w.alloc (.cells #[.int .i64 k0, .string nm, .slice A l.length c] 24)) (.cells #[.int .i64 k0, .string nm, .slice A l.length c] 24)
  rw [hz1] at hE1
  have hmS := (hm.pure hp1).one 4 hw hc hE1
  have HM := As.mk hm
  have HCK := As.mk (regCheck_calls (e := .mk 4 noName [.mk k0 nm l]) (c := 1) (d := d) hmS.hr hmS.hg hmS.wt hmS.gl hmS.gt)
  have HE := As.mk hE
  have HP1 := As.mk hp1
  have HA := As.mk ha
  have HB := As.mk hb
  clear hm hE hp0 hp1 hz1 hE1 hmS ha hb
  show Calls Try.prog 3 #[.agg #[.int .i64 k0, .string nm, .slice A l.length c], .slice Bg g.length d, .slice Aa a.length ca, .slice Ab b.length cb] w _
  by_cases h50 : a.length > 50
  · have e1 : decide (50 < (a.length : Int)) = true := by simp; omega
    have h51 : (50 : Int) < (a.length : Int) := by omega
    go_enter Try.func3, Try.ntmps3
    go_wp2_with (go_at_call 9; refine awake_calls.mono ?_; rintro e w3 ⟨rfl, hu3⟩)
    go_ret
    exact ⟨rfl, (Upd.alloc1 _ _ _).trans hu3 (fun _ _ h => h)⟩
  · have e1 : decide (50 < (a.length : Int)) = false := by simp; omega
    have h51 : ¬ (50 : Int) < (a.length : Int) := by omega
    by_cases h60 : b.length > 50
    · have e2 : decide (50 < (b.length : Int)) = true := by simp; omega
      have h61 : (50 : Int) < (b.length : Int) := by omega
      go_enter Try.func3, Try.ntmps3
      go_wp2_with (go_at_call 9; refine awake_calls.mono ?_; rintro e w3 ⟨rfl, hu3⟩)
      go_ret
      exact ⟨rfl, (Upd.alloc1 _ _ _).trans hu3 (fun _ _ h => h)⟩
    · have e2 : decide (50 < (b.length : Int)) = false := by simp; omega
      have h61 : ¬ (50 : Int) < (b.length : Int) := by omega
      by_cases hck : regCheck (.mk 4 noName [.mk k0 nm l]) g = 0
      · rw [hck] at HCK
        have HCK0 := As.mk hck
        clear hck
        go_enter Try.func3, Try.ntmps3
        go_wp2_with (go_at_call 8; refine HCK.out.mono ?_; rintro e w1 ⟨rfl, hu⟩; have HU := As.mk hu; have HPP := As.mk (HP1.out.trans hu (fun _ _ h => h)); clear hu; apply As.out)
        refine ⟨?_⟩
        obtain ⟨⟨y0, y1, y2⟩, _, _, _, hl1⟩ := cells3 ((HU.out.block _ (by simp; omega) (fun h => h)).trans ((Below.heap_alloc _ _ _ (by simp)).trans HE.out))
        have hW3 : Pure w1 (((w1.alloc (.cells #[.int .i64 k0, .string nm, .slice A l.length c] 24)).alloc (.cells #[.int .i64 6, .string ⟨#[]⟩, .slice (some ⟨w1.heap.size, 0, none⟩) 1 1] 24)).alloc (.cells #[.int .i64 k0, .string nm, .slice A l.length c] 24)) := (((((Upd.alloc1 _ _ _).alloc _).alloc _)))
        have q30 := (hW3.cell hl1 (fun h => h)).trans y0
        have q31 := (hW3.cell hl1 (fun h => h)).trans y1
        have q32 := (hW3.cell hl1 (fun h => h)).trans y2
        have hW4 : Pure w1 ((((w1.alloc (.cells #[.int .i64 k0, .string nm, .slice A l.length c] 24)).alloc (.cells #[.int .i64 6, .string ⟨#[]⟩, .slice (some ⟨w1.heap.size, 0, none⟩) 1 1] 24)).alloc (.cells #[.int .i64 k0, .string nm, .slice A l.length c] 24)).alloc (.cells #[.int .i64 4, .string ⟨#[]⟩, .slice (some ⟨w1.heap.size + 1 + 1, 0, none⟩) 1 1] 24)) := (((((Upd.alloc1 _ _ _).alloc _).alloc _).alloc _))
        have q40 := (hW4.cell hl1 (fun h => h)).trans y0
        have q41 := (hW4.cell hl1 (fun h => h)).trans y1
        have q42 := (hW4.cell hl1 (fun h => h)).trans y2
        have hW5 : Pure w1 (((((w1.alloc (.cells #[.int .i64 k0, .string nm, .slice A l.length c] 24)).alloc (.cells #[.int .i64 6, .string ⟨#[]⟩, .slice (some ⟨w1.heap.size, 0, none⟩) 1 1] 24)).alloc (.cells #[.int .i64 k0, .string nm, .slice A l.length c] 24)).alloc (.cells #[.int .i64 4, .string ⟨#[]⟩, .slice (some ⟨w1.heap.size + 1 + 1, 0, none⟩) 1 1] 24)).alloc (.cells #[.int .i64 k0, .string nm, .slice A l.length c] 24)) := (((((Upd.alloc1 _ _ _).alloc _).alloc _).alloc _).alloc _)
        have q50 := (hW5.cell hl1 (fun h => h)).trans y0
        have q51 := (hW5.cell hl1 (fun h => h)).trans y1
        have q52 := (hW5.cell hl1 (fun h => h)).trans y2
        have hW6 : Pure w1 ((((((w1.alloc (.cells #[.int .i64 k0, .string nm, .slice A l.length c] 24)).alloc (.cells #[.int .i64 6, .string ⟨#[]⟩, .slice (some ⟨w1.heap.size, 0, none⟩) 1 1] 24)).alloc (.cells #[.int .i64 k0, .string nm, .slice A l.length c] 24)).alloc (.cells #[.int .i64 4, .string ⟨#[]⟩, .slice (some ⟨w1.heap.size + 1 + 1, 0, none⟩) 1 1] 24)).alloc (.cells #[.int .i64 k0, .string nm, .slice A l.length c] 24)).alloc (.cells #[.int .i64 5, .string ⟨#[]⟩, .slice (some ⟨w1.heap.size + 1 + 1 + 1 + 1, 0, none⟩) 1 1] 24)) := (((((Upd.alloc1 _ _ _).alloc _).alloc _).alloc _).alloc _).alloc _
        have q60 := (hW6.cell hl1 (fun h => h)).trans y0
        have q61 := (hW6.cell hl1 (fun h => h)).trans y1
        have q62 := (hW6.cell hl1 (fun h => h)).trans y2
        have HW6 := As.mk hW6
        clear hW3 hW4 hW5 hW6
        go_wp2_with (go_at_call 10; apply As.out)
        refine ⟨?_⟩
        clear x0 x1 x2 y0 y1 y2 q30 q31 q32 q40 q41 q42 q50 q51 q52 q60 q61 q62
        have HB0 : As (OptB ((((((w1.alloc (.cells #[.int .i64 k0, .string nm, .slice A l.length c] 24)).alloc (.cells #[.int .i64 6, .string ⟨#[]⟩, .slice (some ⟨w1.heap.size, 0, none⟩) 1 1] 24)).alloc (.cells #[.int .i64 k0, .string nm, .slice A l.length c] 24)).alloc (.cells #[.int .i64 4, .string ⟨#[]⟩, .slice (some ⟨w1.heap.size + 1 + 1, 0, none⟩) 1 1] 24)).alloc (.cells #[.int .i64 k0, .string nm, .slice A l.length c] 24)).alloc (.cells #[.int .i64 5, .string ⟨#[]⟩, .slice (some ⟨w1.heap.size + 1 + 1 + 1 + 1, 0, none⟩) 1 1] 24)) k0 nm l A c w.heap.size w1.heap.size) := ⟨by
          have hs : w.heap.size < w1.heap.size := hl1
          refine ⟨?_, ?_, ?_, ?_, ?_, ?_, ?_⟩
          · exact (HW6.out.block _ hs (fun h => h)).trans ((HU.out.block _ (by simp; omega) (fun h => h)).trans ((Below.heap_alloc _ _ _ (by simp)).trans HE.out))
          all_goals (simp only [heap_at_alloc]; simp; try (repeat rw [if_neg (by omega)]))⟩
        have HPB := As.mk (HPP.out.trans HW6.out (fun _ _ h => h))
        generalize ((((((w1.alloc (.cells #[.int .i64 k0, .string nm, .slice A l.length c] 24)).alloc (.cells #[.int .i64 6, .string ⟨#[]⟩, .slice (some ⟨w1.heap.size, 0, none⟩) 1 1] 24)).alloc (.cells #[.int .i64 k0, .string nm, .slice A l.length c] 24)).alloc (.cells #[.int .i64 4, .string ⟨#[]⟩, .slice (some ⟨w1.heap.size + 1 + 1, 0, none⟩) 1 1] 24)).alloc (.cells #[.int .i64 k0, .string nm, .slice A l.length c] 24)).alloc (.cells #[.int .i64 5, .string ⟨#[]⟩, .slice (some ⟨w1.heap.size + 1 + 1 + 1 + 1, 0, none⟩) 1 1] 24)) = Wb at *
        clear HW6 HPP HU HE HCK HP1
        generalize w1.heap.size = n at *
        have HS : As (∀ W, Pure Wb W → (W.cell? ⟨w.heap.size, 0, none⟩ = some (.int .i64 k0) ∧ W.cell? ⟨w.heap.size, 1, none⟩ = some (.string nm) ∧ W.cell? ⟨w.heap.size, 2, none⟩ = some (.slice A l.length c) ∧ W.cell? ⟨n + 1, 0, none⟩ = some (.int .i64 6) ∧ W.cell? ⟨n + 1, 1, none⟩ = some (.string noName) ∧ W.cell? ⟨n + 1, 2, none⟩ = some (.slice (some ⟨n, 0, none⟩) 1 1) ∧ W.cell? ⟨n + 1 + 1 + 1, 0, none⟩ = some (.int .i64 4) ∧ W.cell? ⟨n + 1 + 1 + 1, 1, none⟩ = some (.string noName) ∧ W.cell? ⟨n + 1 + 1 + 1, 2, none⟩ = some (.slice (some ⟨n + 1 + 1, 0, none⟩) 1 1) ∧ W.cell? ⟨n + 1 + 1 + 1 + 1 + 1, 0, none⟩ = some (.int .i64 5) ∧ W.cell? ⟨n + 1 + 1 + 1 + 1 + 1, 1, none⟩ = some (.string noName) ∧ W.cell? ⟨n + 1 + 1 + 1 + 1 + 1, 2, none⟩ = some (.slice (some ⟨n + 1 + 1 + 1 + 1, 0, none⟩) 1 1))) := ⟨fun W hu => by
          have h := HB0.out.pure hu
          obtain ⟨⟨a0, a1, a2⟩, _⟩ := cells3 h.e
          obtain ⟨⟨b0, b1, b2⟩, _⟩ := cells3 h.o1
          obtain ⟨⟨c0, c1, c2⟩, _⟩ := cells3 h.s1
          obtain ⟨⟨d0, d1, d2⟩, _⟩ := cells3 h.p1
          exact ⟨a0, a1, a2, b0, b1, b2, c0, c1, c2, d0, d1, d2⟩⟩
        have hme := HM.out.pure HPB.out
        have hck := check_one (j := 6) (.inl rfl) HCK0.out
        have hck5 := (check_one (j := 5) (.inl rfl) HCK0.out).2 (by omega)
        have hok := mc_ok hck.1
        have HE_ := As.mk (fun (W : World) (hu : Pure Wb W) (word : List Int) (F : Nat → Prop) (Aw : Option Addr) (cw : Nat) (hw : intR.row W F Aw word) (hl : word.length ≤ 1048576 * 4) => accepts_calls (c := c) (d := d) (cw := cw) (hme.pure hu) hw hl)
        have HO_ := As.mk (fun (W : World) (hu : Pure Wb W) (word : List Int) (F : Nat → Prop) (Aw : Option Addr) (cw : Nat) (hw' : intR.row W F Aw word) (hl : word.length ≤ 1048576 * 4) => accepts_calls (c := 1) (d := d) (cw := cw) ((hme.one 6 hw hc HB0.out.o0).pure hu) hw' hl)
        have HS_ := As.mk (fun (W : World) (hu : Pure Wb W) (word : List Int) (F : Nat → Prop) (Aw : Option Addr) (cw : Nat) (hw' : intR.row W F Aw word) (hl : word.length ≤ 1048576 * 4) => accepts_calls (c := 1) (d := d) (cw := cw) ((hme.one 4 hw hc HB0.out.s0).pure hu) hw' hl)
        have HP_ := As.mk (fun (W : World) (hu : Pure Wb W) (word : List Int) (F : Nat → Prop) (Aw : Option Addr) (cw : Nat) (hw' : intR.row W F Aw word) (hl : word.length ≤ 1048576 * 4) => accepts_calls (c := 1) (d := d) (cw := cw) ((hme.one 5 hw hc HB0.out.p0).pure hu) hw' hl)
        have P1 : regAccepts (.mk 6 noName [.mk k0 nm l]) g a = (regAccepts (.mk k0 nm l) g a || decide (a = [])) := by
          rw [Bool.eq_iff_iff, Bool.or_eq_true, accepts_iff, accepts_iff, decide_eq_true_eq, acc_opt hok]
          exact ⟨fun h => h.2.imp (fun h1 => ⟨hck.1, h1⟩) id, fun h => ⟨hck.2 (by omega), h.imp (fun h1 => h1.2) id⟩⟩
        have P2 : regAccepts (.mk 4 noName [.mk k0 nm l]) g [] = true := (accepts_iff _).2 ⟨HCK0.out, acc_star_nil⟩
        have P3 : regAccepts (.mk 5 noName [.mk k0 nm l]) g [] = regAccepts (.mk k0 nm l) g [] := by
          rw [Bool.eq_iff_iff, accepts_iff, accepts_iff, acc_plus_nil]
          exact ⟨fun h => ⟨hck.1, h.2⟩, fun h => ⟨hck5, h.2⟩⟩
        have P4 : regAccepts (.mk k0 nm l) g a = true → regAccepts (.mk 4 noName [.mk k0 nm l]) g a = true ∧ regAccepts (.mk 5 noName [.mk k0 nm l]) g a = true := fun h => ⟨(accepts_iff _).2 ⟨HCK0.out, acc_once (.inl rfl) ((accepts_iff _).1 h).2⟩, (accepts_iff _).2 ⟨hck5, acc_once (.inr rfl) ((accepts_iff _).1 h).2⟩⟩
        have P5 : regAccepts (.mk k0 nm l) g a = true → regAccepts (.mk k0 nm l) g b = true → regAccepts (.mk 4 noName [.mk k0 nm l]) g (a ++ b) = true ∧ regAccepts (.mk 5 noName [.mk k0 nm l]) g (a ++ b) = true := fun h h' => ⟨(accepts_iff _).2 ⟨HCK0.out, acc_twice (.inl rfl) hok ((accepts_iff _).1 h).2 ((accepts_iff _).1 h').2⟩, (accepts_iff _).2 ⟨hck5, acc_twice (.inr rfl) hok ((accepts_iff _).1 h).2 ((accepts_iff _).1 h').2⟩⟩
        have P1 := As.mk P1
        have P2 := As.mk P2
        have P3 := As.mk P3
        have P4 := As.mk P4
        have P5 := As.mk P5
        clear hme hck hck5 hok HCK0
        refine ((HE_.out _ (Upd.refl _ _) a _ Aa ca (Rp.row_pure HA.out (HPB.out.trans (Upd.refl _ _) (fun _ _ h => h))) (by omega)).mono ?_)
        rintro e w2 ⟨rfl, hu⟩
        have HU2 := As.mk hu
        clear hu
        cases hoa : regAccepts (.mk k0 nm l) g a
        · by_cases han : a = []
          · have HOA := As.mk hoa
            have R1 := P1.out; have R3 := P3.out; have R2 := P2.out
            rw [hoa] at R1
            rw [Bool.false_or, decide_eq_true (show a = [] from han)] at R1
            have HR1 := As.mk R1; have HR2 := As.mk R2; have HR3 := As.mk R3; clear R1 R2 R3
            have hal0 : ((a.length : Int) == 0) = true := by simp; exact han
            have hal1 : (a.length == 0) = true := by simp; exact han
            clear hoa han
            have hzX := HU2.out.size
            go_wp2_with (at_builtin; refine Rp.append_row intR (c := ca) (Rp.own_empty (F := fun _ => True) intR (heap_alloc_new w2 _) trivial) (Rp.row'_of (Rp.row_pure HA.out (HPB.out.trans (HU2.out.alloc _) (fun _ _ h => h))) (fun _ _ h => h)) (Fz := fun _ => False) (fun _ h => h.elim) rfl _ _ 26 (.int .i64 0) 8 rfl Try.underlying26 int_info rfl (by decide) (by decide) rfl rfl (by simp; omega) ?_; intro v1 w7 ho1 hu1 hat1; have HO1 := As.mk (int_own_fp ho1); have HU7 := As.mk (Upd.trans (HU2.out.alloc _) hu1 (fun q hq h => by simp [Value.ownBlock] at h; omega)); have HAT := As.mk hat1; clear ho1 hu1 hat1; apply As.out)
            refine ⟨?_⟩
            have hv1 : ∀ q, v1.ownBlock = some q → Wb.heap.size ≤ q := by
              intro q hq
              rcases HAT.out with h | ⟨b1, h, hb1⟩
              · rw [h] at hq; simp [Value.ownBlock] at hq; omega
              · rw [h] at hq; simp at hq hb1; omega
            have HV1 := As.mk hv1; clear hv1 HAT
            go_wp2_with (at_builtin; refine Rp.append_row intR (c := cb) HO1.out (Rp.row'_of (Rp.row_pure HB.out (HPB.out.trans HU7.out (fun _ _ h => h))) (fun _ _ h => h)) (Fz := fun _ => False) (fun _ h => h.elim) rfl _ _ 26 (.int .i64 0) 8 rfl Try.underlying26 int_info rfl (by decide) (by decide) rfl rfl (by simp; omega) ?_; intro v2 w9 ho2 hu2 hat2; have HO2 := As.mk (int_own_fp ho2); have HU9 := As.mk (Upd.trans HU7.out hu2 (fun q hq h => by have := HV1.out q h; omega)); clear ho2 hu2 hat2; apply As.out)
            refine ⟨?_⟩
            obtain ⟨ab, hab⟩ : ∃ ab, ab = a ++ b := ⟨_, rfl⟩
            have ho3 := HO2.out
            rw [List.nil_append, ← hab] at ho3
            obtain ⟨A2, c2, rfl, _, hr3⟩ := Rp.own_slice ho3
            have HR9 := As.mk hr3
            have habl : ab.length ≤ 1048576 * 4 := by rw [hab, List.length_append]; omega
            clear hab ho3 hr3
            go_wp2
            refine wp_region_held_drew (S := (fun v => v.cell? ⟨w.heap.size, 0, none⟩ = some (.int .i64 k0) ∧ v.cell? ⟨w.heap.size, 1, none⟩ = some (.string nm) ∧ v.cell? ⟨w.heap.size, 2, none⟩ = some (.slice A l.length c) ∧ v.cell? ⟨n + 1, 0, none⟩ = some (.int .i64 6) ∧ v.cell? ⟨n + 1, 1, none⟩ = some (.string noName) ∧ v.cell? ⟨n + 1, 2, none⟩ = some (.slice (some ⟨n, 0, none⟩) 1 1) ∧ v.cell? ⟨n + 1 + 1 + 1, 0, none⟩ = some (.int .i64 4) ∧ v.cell? ⟨n + 1 + 1 + 1, 1, none⟩ = some (.string noName) ∧ v.cell? ⟨n + 1 + 1 + 1, 2, none⟩ = some (.slice (some ⟨n + 1 + 1, 0, none⟩) 1 1) ∧ v.cell? ⟨n + 1 + 1 + 1 + 1 + 1, 0, none⟩ = some (.int .i64 5) ∧ v.cell? ⟨n + 1 + 1 + 1 + 1 + 1, 1, none⟩ = some (.string noName) ∧ v.cell? ⟨n + 1 + 1 + 1 + 1 + 1, 2, none⟩ = some (.slice (some ⟨n + 1 + 1 + 1 + 1, 0, none⟩) 1 1))) (by kernel_rfl) ?_ (fun hHeld => ?_)
            · first | exact HS.out _ HUd.out | exact HS.out _ HUc.out | exact HS.out _ HUb.out | exact HS.out _ HUa.out | exact HS.out _ HU9.out.drew
            refine wpAnyH_take (i := 0) (oi := { dst := (some 57), op := (Go.Op.load 24 (Go.Operand.tmp 9)), type := 24, pos := "law.go:107", after := #[], guard := none }) (v := ?_) rfl (by kernel_rfl) (by kernel_rfl) (by kernel_rfl) (fun _ _ _ h => h) (Or.inl ⟨by rfl, (by intro w hSw; (try dsimp only at hSw); go_simp; try with_reducible rfl)⟩) (by assumption) ?_
            (try simp only [Act.put, List.setIfInBounds_toArray, List.set_cons_zero, List.set_cons_succ])
            refine wpAnyH_take (i := 1) (oi := { dst := (some 58), op := (Go.Op.move (Go.Operand.tmp 1)), type := 25, pos := "law.go:107", after := #[], guard := none }) (v := ?_) rfl (by kernel_rfl) (by kernel_rfl) (by kernel_rfl) (fun _ _ _ h => h) (Or.inl ⟨by rfl, (by intro w hSw; (try dsimp only at hSw); go_simp; try with_reducible rfl)⟩) (by assumption) ?_
            (try simp only [Act.put, List.setIfInBounds_toArray, List.set_cons_zero, List.set_cons_succ])
            refine wpAnyH_take (i := 2) (oi := { dst := (some 59), op := (Go.Op.move (Go.Operand.tmp 2)), type := 26, pos := "law.go:107", after := #[], guard := none }) (v := ?_) rfl (by kernel_rfl) (by kernel_rfl) (by kernel_rfl) (fun _ _ _ h => h) (Or.inl ⟨by rfl, (by intro w hSw; (try dsimp only at hSw); go_simp; try with_reducible rfl)⟩) (by assumption) ?_
            (try simp only [Act.put, List.setIfInBounds_toArray, List.set_cons_zero, List.set_cons_succ])
            refine wpAnyH_take (i := 4) (oi := { dst := (some 61), op := (Go.Op.move (Go.Operand.tmp 12)), type := 4, pos := "law.go:107", after := #[], guard := none }) (v := ?_) rfl (by kernel_rfl) (by kernel_rfl) (by kernel_rfl) (fun _ _ _ h => h) (Or.inl ⟨by rfl, (by intro w hSw; (try dsimp only at hSw); go_simp; try with_reducible rfl)⟩) (by assumption) ?_
            (try simp only [Act.put, List.setIfInBounds_toArray, List.set_cons_zero, List.set_cons_succ])
            refine wpAnyH_ready (rs := [3]) (by kernel_rfl) (by simp) (AllReadyH.cons (o := { dst := (some 60), op := (Go.Op.call { callee := (Go.Callee.value (Go.Operand.func 10)), args := #[(Go.Operand.tmp 57), (Go.Operand.tmp 58), (Go.Operand.tmp 59)], argTypes := #[24, 25, 26] }), type := 4, pos := "law.go:107", after := #[{ on := 0, ground := Go.Ground.data }, { on := 1, ground := Go.Ground.data }, { on := 2, ground := Go.Ground.data }], guard := none }) rfl (fun K hK => ?_) AllReadyH.nil)
            go_simp
            (first | (go_at_call 10; refine (HE_.out _ HUc.out [] (fun _ => True) none 0 (.inl rfl) (by simp)).mono ?_; rintro e wd ⟨rfl, hu⟩; have HUd := As.mk (Upd.trans HUc.out hu (fun _ _ h => h)); have HVd := As.mk (Upd.trans HVc.out hu (fun _ _ h => h)); clear hu) | (go_at_call 10; refine (HP_.out _ HUb.out [] (fun _ => True) none 0 (.inl rfl) (by simp)).mono ?_; rintro e wc ⟨rfl, hu⟩; rw [HR3.out]; have HUc := As.mk (Upd.trans HUb.out hu (fun _ _ h => h)); have HVc := As.mk (Upd.trans HVb.out hu (fun _ _ h => h)); clear hu) | (go_at_call 10; refine (HS_.out _ HUa.out [] (fun _ => True) none 0 (.inl rfl) (by simp)).mono ?_; rintro e wb ⟨rfl, hu⟩; rw [HR2.out]; have HUb := As.mk (Upd.trans HUa.out hu (fun _ _ h => h)); have HVb := As.mk (Upd.trans HVa.out hu (fun _ _ h => h)); clear hu) | (go_at_call 10; refine (HO_.out _ HU9.out.drew a _ Aa ca (Rp.row_pure HA.out (HPB.out.trans HU9.out.drew (fun _ _ h => h))) (by omega)).mono ?_; rintro e wa ⟨rfl, hu⟩; rw [HR1.out]; have HUa := As.mk (Upd.trans HU9.out.drew hu (fun _ _ h => h)); have HVa := As.mk (hu); clear hu))
            refine hK.out _ _ (by first | exact HS.out _ HUd.out | exact HS.out _ HUc.out | exact HS.out _ HUb.out | exact HS.out _ HUa.out | exact HS.out _ HU9.out.drew) (fun hHeld => ?_)
            clear hK K
            (try simp only [Act.put, List.setIfInBounds_toArray, List.set_cons_zero, List.set_cons_succ])
            refine wpAnyH_take (i := 5) (oi := { dst := (some 62), op := (Go.Op.move (Go.Operand.tmp 61)), type := 4, pos := "law.go:107", after := #[{ on := 4, ground := Go.Ground.data }, { on := 3, ground := Go.Ground.chain }], guard := none }) (v := ?_) rfl (by kernel_rfl) (by kernel_rfl) (by kernel_rfl) (fun _ _ _ h => h) (Or.inl ⟨by rfl, (by intro w hSw; (try dsimp only at hSw); go_simp; try with_reducible rfl)⟩) (by assumption) ?_
            (try simp only [Act.put, List.setIfInBounds_toArray, List.set_cons_zero, List.set_cons_succ])
            refine wpAnyH_take (i := 6) (oi := { dst := (some 63), op := (Go.Op.move (Go.Operand.tmp 2)), type := 26, pos := "law.go:107", after := #[{ on := 5, ground := Go.Ground.guard }], guard := (some (5, false)) }) (v := ?_) rfl (by kernel_rfl) (by kernel_rfl) (by kernel_rfl) (fun _ _ _ h => h) (Or.inl ⟨by rfl, (by intro w hSw; (try dsimp only at hSw); go_simp; try with_reducible rfl)⟩) (by assumption) ?_
            (try simp only [Act.put, List.setIfInBounds_toArray, List.set_cons_zero, List.set_cons_succ])
            refine wpAnyH_take (i := 7) (oi := { dst := (some 64), op := (Go.Op.call { callee := (Go.Callee.builtin Go.Builtin.len), args := #[(Go.Operand.tmp 63)], argTypes := #[26] }), type := 3, pos := "law.go:107", after := #[{ on := 6, ground := Go.Ground.data }, { on := 5, ground := Go.Ground.guard }], guard := (some (5, false)) }) (v := ?_) rfl (by kernel_rfl) (by kernel_rfl) (by kernel_rfl) (fun _ _ _ h => h) (Or.inl ⟨by rfl, (by intro w hSw; (try dsimp only at hSw); go_simp; try with_reducible rfl)⟩) (by assumption) ?_
            (try simp only [Act.put, List.setIfInBounds_toArray, List.set_cons_zero, List.set_cons_succ])
            refine wpAnyH_take (i := 8) (oi := { dst := (some 65), op := (Go.Op.binOp Go.BinOp.eql 3 (Go.Operand.tmp 64) (Go.Operand.const (Go.Value.int Go.IntKind.i64 0)) 3), type := 4, pos := "law.go:107", after := #[{ on := 7, ground := Go.Ground.data }, { on := 5, ground := Go.Ground.guard }], guard := (some (5, false)) }) (v := ?_) rfl (by kernel_rfl) (by kernel_rfl) (by kernel_rfl) (fun _ _ _ h => h) (Or.inl ⟨by rfl, (by intro w hSw; (try dsimp only at hSw); go_simp; try with_reducible rfl)⟩) (by assumption) ?_
            (try simp only [Act.put, List.setIfInBounds_toArray, List.set_cons_zero, List.set_cons_succ])
            refine wpAnyH_take (i := 9) (oi := { dst := (some 66), op := (Go.Op.pick (Go.Operand.tmp 62) (Go.Operand.const (Go.Value.bool true)) (Go.Operand.tmp 65)), type := 4, pos := "law.go:107", after := #[{ on := 5, ground := Go.Ground.data }, { on := 8, ground := Go.Ground.data }], guard := none }) (v := ?_) rfl (by kernel_rfl) (by kernel_rfl) (by kernel_rfl) (fun _ _ _ h => h) (Or.inl ⟨by rfl, (by intro w hSw; (try dsimp only at hSw); go_simp; try with_reducible rfl)⟩) (by assumption) ?_
            (try simp only [Act.put, List.setIfInBounds_toArray, List.set_cons_zero, List.set_cons_succ])
            refine wpAnyH_take (i := 10) (oi := { dst := (some 67), op := (Go.Op.binOp Go.BinOp.neq 4 (Go.Operand.tmp 60) (Go.Operand.tmp 66) 4), type := 4, pos := "law.go:107", after := #[{ on := 3, ground := Go.Ground.data }, { on := 9, ground := Go.Ground.data }], guard := none }) (v := ?_) rfl (by kernel_rfl) (by kernel_rfl) (by kernel_rfl) (fun _ _ _ h => h) (Or.inl ⟨by rfl, (by intro w hSw; (try dsimp only at hSw); go_simp; try with_reducible rfl)⟩) (by assumption) ?_
            (try simp only [Act.put, List.setIfInBounds_toArray, List.set_cons_zero, List.set_cons_succ])
            refine wpAnyH_take (i := 11) (oi := { dst := (some 68), op := (Go.Op.move (Go.Operand.tmp 67)), type := 4, pos := "law.go:107", after := #[{ on := 10, ground := Go.Ground.data }, { on := 5, ground := Go.Ground.chain }], guard := none }) (v := ?_) rfl (by kernel_rfl) (by kernel_rfl) (by kernel_rfl) (fun _ _ _ h => h) (Or.inl ⟨by rfl, (by intro w hSw; (try dsimp only at hSw); go_simp; try with_reducible rfl)⟩) (by assumption) ?_
            (try simp only [Act.put, List.setIfInBounds_toArray, List.set_cons_zero, List.set_cons_succ])
            refine wpAnyH_take (i := 12) (oi := { dst := (some 69), op := (Go.Op.load 24 (Go.Operand.tmp 10)), type := 24, pos := "law.go:107", after := #[{ on := 11, ground := Go.Ground.guard }], guard := (some (11, false)) }) (v := ?_) rfl (by kernel_rfl) (by kernel_rfl) (by kernel_rfl) (fun _ _ _ h => h) (Or.inl ⟨by rfl, (by intro w hSw; (try dsimp only at hSw); go_simp; try with_reducible rfl)⟩) (by assumption) ?_
            (try simp only [Act.put, List.setIfInBounds_toArray, List.set_cons_zero, List.set_cons_succ])
            refine wpAnyH_take (i := 13) (oi := { dst := (some 70), op := (Go.Op.move (Go.Operand.tmp 1)), type := 25, pos := "law.go:107", after := #[{ on := 11, ground := Go.Ground.guard }], guard := (some (11, false)) }) (v := ?_) rfl (by kernel_rfl) (by kernel_rfl) (by kernel_rfl) (fun _ _ _ h => h) (Or.inl ⟨by rfl, (by intro w hSw; (try dsimp only at hSw); go_simp; try with_reducible rfl)⟩) (by assumption) ?_
            (try simp only [Act.put, List.setIfInBounds_toArray, List.set_cons_zero, List.set_cons_succ])
            refine wpAnyH_ready (rs := [14]) (by kernel_rfl) (by simp) (AllReadyH.cons (o := { dst := (some 71), op := (Go.Op.call { callee := (Go.Callee.value (Go.Operand.func 10)), args := #[(Go.Operand.tmp 69), (Go.Operand.tmp 70), (Go.Operand.const (Go.Value.slice none 0 0))], argTypes := #[24, 25, 26] }), type := 4, pos := "law.go:107", after := #[{ on := 12, ground := Go.Ground.data }, { on := 13, ground := Go.Ground.data }, { on := 11, ground := Go.Ground.chain }, { on := 11, ground := Go.Ground.guard }], guard := (some (11, false)) }) rfl (fun K hK => ?_) AllReadyH.nil)
            go_simp
            (first | (go_at_call 10; refine (HE_.out _ HUc.out [] (fun _ => True) none 0 (.inl rfl) (by simp)).mono ?_; rintro e wd ⟨rfl, hu⟩; have HUd := As.mk (Upd.trans HUc.out hu (fun _ _ h => h)); have HVd := As.mk (Upd.trans HVc.out hu (fun _ _ h => h)); clear hu) | (go_at_call 10; refine (HP_.out _ HUb.out [] (fun _ => True) none 0 (.inl rfl) (by simp)).mono ?_; rintro e wc ⟨rfl, hu⟩; rw [HR3.out]; have HUc := As.mk (Upd.trans HUb.out hu (fun _ _ h => h)); have HVc := As.mk (Upd.trans HVb.out hu (fun _ _ h => h)); clear hu) | (go_at_call 10; refine (HS_.out _ HUa.out [] (fun _ => True) none 0 (.inl rfl) (by simp)).mono ?_; rintro e wb ⟨rfl, hu⟩; rw [HR2.out]; have HUb := As.mk (Upd.trans HUa.out hu (fun _ _ h => h)); have HVb := As.mk (Upd.trans HVa.out hu (fun _ _ h => h)); clear hu) | (go_at_call 10; refine (HO_.out _ HU9.out.drew a _ Aa ca (Rp.row_pure HA.out (HPB.out.trans HU9.out.drew (fun _ _ h => h))) (by omega)).mono ?_; rintro e wa ⟨rfl, hu⟩; rw [HR1.out]; have HUa := As.mk (Upd.trans HU9.out.drew hu (fun _ _ h => h)); have HVa := As.mk (hu); clear hu))
            refine hK.out _ _ (by first | exact HS.out _ HUd.out | exact HS.out _ HUc.out | exact HS.out _ HUb.out | exact HS.out _ HUa.out | exact HS.out _ HU9.out.drew) (fun hHeld => ?_)
            clear hK K
            (try simp only [Act.put, List.setIfInBounds_toArray, List.set_cons_zero, List.set_cons_succ])
            refine wpAnyH_take (i := 15) (oi := { dst := (some 72), op := (Go.Op.unOp Go.UnOp.not 4 (Go.Operand.tmp 71)), type := 4, pos := "law.go:107", after := #[{ on := 14, ground := Go.Ground.data }, { on := 11, ground := Go.Ground.guard }], guard := (some (11, false)) }) (v := ?_) rfl (by kernel_rfl) (by kernel_rfl) (by kernel_rfl) (fun _ _ _ h => h) (Or.inl ⟨by rfl, (by intro w hSw; (try dsimp only at hSw); go_simp; try with_reducible rfl)⟩) (by assumption) ?_
            (try simp only [Act.put, List.setIfInBounds_toArray, List.set_cons_zero, List.set_cons_succ])
            refine wpAnyH_take (i := 16) (oi := { dst := (some 73), op := (Go.Op.pick (Go.Operand.tmp 68) (Go.Operand.const (Go.Value.bool true)) (Go.Operand.tmp 72)), type := 4, pos := "law.go:107", after := #[{ on := 11, ground := Go.Ground.data }, { on := 15, ground := Go.Ground.data }], guard := none }) (v := ?_) rfl (by kernel_rfl) (by kernel_rfl) (by kernel_rfl) (fun _ _ _ h => h) (Or.inl ⟨by rfl, (by intro w hSw; (try dsimp only at hSw); go_simp; try with_reducible rfl)⟩) (by assumption) ?_
            (try simp only [Act.put, List.setIfInBounds_toArray, List.set_cons_zero, List.set_cons_succ])
            refine wpAnyH_take (i := 17) (oi := { dst := (some 74), op := (Go.Op.move (Go.Operand.tmp 73)), type := 4, pos := "law.go:107", after := #[{ on := 16, ground := Go.Ground.data }, { on := 14, ground := Go.Ground.chain }], guard := none }) (v := ?_) rfl (by kernel_rfl) (by kernel_rfl) (by kernel_rfl) (fun _ _ _ h => h) (Or.inl ⟨by rfl, (by intro w hSw; (try dsimp only at hSw); go_simp; try with_reducible rfl)⟩) (by assumption) ?_
            (try simp only [Act.put, List.setIfInBounds_toArray, List.set_cons_zero, List.set_cons_succ])
            refine wpAnyH_take (i := 18) (oi := { dst := (some 75), op := (Go.Op.load 24 (Go.Operand.tmp 11)), type := 24, pos := "law.go:107", after := #[{ on := 17, ground := Go.Ground.guard }], guard := (some (17, false)) }) (v := ?_) rfl (by kernel_rfl) (by kernel_rfl) (by kernel_rfl) (fun _ _ _ h => h) (Or.inl ⟨by rfl, (by intro w hSw; (try dsimp only at hSw); go_simp; try with_reducible rfl)⟩) (by assumption) ?_
            (try simp only [Act.put, List.setIfInBounds_toArray, List.set_cons_zero, List.set_cons_succ])
            refine wpAnyH_take (i := 19) (oi := { dst := (some 76), op := (Go.Op.move (Go.Operand.tmp 1)), type := 25, pos := "law.go:107", after := #[{ on := 17, ground := Go.Ground.guard }], guard := (some (17, false)) }) (v := ?_) rfl (by kernel_rfl) (by kernel_rfl) (by kernel_rfl) (fun _ _ _ h => h) (Or.inl ⟨by rfl, (by intro w hSw; (try dsimp only at hSw); go_simp; try with_reducible rfl)⟩) (by assumption) ?_
            (try simp only [Act.put, List.setIfInBounds_toArray, List.set_cons_zero, List.set_cons_succ])
            refine wpAnyH_take (i := 21) (oi := { dst := (some 78), op := (Go.Op.load 24 (Go.Operand.tmp 4)), type := 24, pos := "law.go:107", after := #[{ on := 17, ground := Go.Ground.guard }], guard := (some (17, false)) }) (v := ?_) rfl (by kernel_rfl) (by kernel_rfl) (by kernel_rfl) (fun _ _ _ h => h) (Or.inl ⟨by rfl, (by intro w hSw; (try dsimp only at hSw); go_simp; try with_reducible rfl)⟩) (by assumption) ?_
            (try simp only [Act.put, List.setIfInBounds_toArray, List.set_cons_zero, List.set_cons_succ])
            refine wpAnyH_take (i := 22) (oi := { dst := (some 79), op := (Go.Op.move (Go.Operand.tmp 1)), type := 25, pos := "law.go:107", after := #[{ on := 17, ground := Go.Ground.guard }], guard := (some (17, false)) }) (v := ?_) rfl (by kernel_rfl) (by kernel_rfl) (by kernel_rfl) (fun _ _ _ h => h) (Or.inl ⟨by rfl, (by intro w hSw; (try dsimp only at hSw); go_simp; try with_reducible rfl)⟩) (by assumption) ?_
            (try simp only [Act.put, List.setIfInBounds_toArray, List.set_cons_zero, List.set_cons_succ])
            refine wpAnyH_ready (rs := [20]) (by kernel_rfl) (by simp) (AllReadyH.cons (o := { dst := (some 77), op := (Go.Op.call { callee := (Go.Callee.value (Go.Operand.func 10)), args := #[(Go.Operand.tmp 75), (Go.Operand.tmp 76), (Go.Operand.const (Go.Value.slice none 0 0))], argTypes := #[24, 25, 26] }), type := 4, pos := "law.go:107", after := #[{ on := 18, ground := Go.Ground.data }, { on := 19, ground := Go.Ground.data }, { on := 17, ground := Go.Ground.chain }, { on := 17, ground := Go.Ground.guard }], guard := (some (17, false)) }) rfl (fun K hK => ?_) AllReadyH.nil)
            go_simp
            (first | (go_at_call 10; refine (HE_.out _ HUc.out [] (fun _ => True) none 0 (.inl rfl) (by simp)).mono ?_; rintro e wd ⟨rfl, hu⟩; have HUd := As.mk (Upd.trans HUc.out hu (fun _ _ h => h)); have HVd := As.mk (Upd.trans HVc.out hu (fun _ _ h => h)); clear hu) | (go_at_call 10; refine (HP_.out _ HUb.out [] (fun _ => True) none 0 (.inl rfl) (by simp)).mono ?_; rintro e wc ⟨rfl, hu⟩; rw [HR3.out]; have HUc := As.mk (Upd.trans HUb.out hu (fun _ _ h => h)); have HVc := As.mk (Upd.trans HVb.out hu (fun _ _ h => h)); clear hu) | (go_at_call 10; refine (HS_.out _ HUa.out [] (fun _ => True) none 0 (.inl rfl) (by simp)).mono ?_; rintro e wb ⟨rfl, hu⟩; rw [HR2.out]; have HUb := As.mk (Upd.trans HUa.out hu (fun _ _ h => h)); have HVb := As.mk (Upd.trans HVa.out hu (fun _ _ h => h)); clear hu) | (go_at_call 10; refine (HO_.out _ HU9.out.drew a _ Aa ca (Rp.row_pure HA.out (HPB.out.trans HU9.out.drew (fun _ _ h => h))) (by omega)).mono ?_; rintro e wa ⟨rfl, hu⟩; rw [HR1.out]; have HUa := As.mk (Upd.trans HU9.out.drew hu (fun _ _ h => h)); have HVa := As.mk (hu); clear hu))
            refine hK.out _ _ (by first | exact HS.out _ HUd.out | exact HS.out _ HUc.out | exact HS.out _ HUb.out | exact HS.out _ HUa.out | exact HS.out _ HU9.out.drew) (fun hHeld => ?_)
            clear hK K
            (try simp only [Act.put, List.setIfInBounds_toArray, List.set_cons_zero, List.set_cons_succ])
            refine wpAnyH_ready (rs := [23]) (by kernel_rfl) (by simp) (AllReadyH.cons (o := { dst := (some 80), op := (Go.Op.call { callee := (Go.Callee.value (Go.Operand.func 10)), args := #[(Go.Operand.tmp 78), (Go.Operand.tmp 79), (Go.Operand.const (Go.Value.slice none 0 0))], argTypes := #[24, 25, 26] }), type := 4, pos := "law.go:107", after := #[{ on := 21, ground := Go.Ground.data }, { on := 22, ground := Go.Ground.data }, { on := 20, ground := Go.Ground.chain }, { on := 17, ground := Go.Ground.guard }], guard := (some (17, false)) }) rfl (fun K hK => ?_) AllReadyH.nil)
            go_simp
            (first | (go_at_call 10; refine (HE_.out _ HUc.out [] (fun _ => True) none 0 (.inl rfl) (by simp)).mono ?_; rintro e wd ⟨rfl, hu⟩; have HUd := As.mk (Upd.trans HUc.out hu (fun _ _ h => h)); have HVd := As.mk (Upd.trans HVc.out hu (fun _ _ h => h)); clear hu) | (go_at_call 10; refine (HP_.out _ HUb.out [] (fun _ => True) none 0 (.inl rfl) (by simp)).mono ?_; rintro e wc ⟨rfl, hu⟩; rw [HR3.out]; have HUc := As.mk (Upd.trans HUb.out hu (fun _ _ h => h)); have HVc := As.mk (Upd.trans HVb.out hu (fun _ _ h => h)); clear hu) | (go_at_call 10; refine (HS_.out _ HUa.out [] (fun _ => True) none 0 (.inl rfl) (by simp)).mono ?_; rintro e wb ⟨rfl, hu⟩; rw [HR2.out]; have HUb := As.mk (Upd.trans HUa.out hu (fun _ _ h => h)); have HVb := As.mk (Upd.trans HVa.out hu (fun _ _ h => h)); clear hu) | (go_at_call 10; refine (HO_.out _ HU9.out.drew a _ Aa ca (Rp.row_pure HA.out (HPB.out.trans HU9.out.drew (fun _ _ h => h))) (by omega)).mono ?_; rintro e wa ⟨rfl, hu⟩; rw [HR1.out]; have HUa := As.mk (Upd.trans HU9.out.drew hu (fun _ _ h => h)); have HVa := As.mk (hu); clear hu))
            refine hK.out _ _ (by first | exact HS.out _ HUd.out | exact HS.out _ HUc.out | exact HS.out _ HUb.out | exact HS.out _ HUa.out | exact HS.out _ HU9.out.drew) (fun hHeld => ?_)
            clear hK K
            (try simp only [Act.put, List.setIfInBounds_toArray, List.set_cons_zero, List.set_cons_succ])
            refine wpAnyH_take (i := 24) (oi := { dst := (some 81), op := (Go.Op.binOp Go.BinOp.neq 4 (Go.Operand.tmp 77) (Go.Operand.tmp 80) 4), type := 4, pos := "law.go:107", after := #[{ on := 20, ground := Go.Ground.data }, { on := 23, ground := Go.Ground.data }, { on := 17, ground := Go.Ground.guard }], guard := (some (17, false)) }) (v := ?_) rfl (by kernel_rfl) (by kernel_rfl) (by kernel_rfl) (fun _ _ _ h => h) (Or.inl ⟨by rfl, (by intro w hSw; (try dsimp only at hSw); go_simp; try with_reducible rfl)⟩) (by assumption) ?_
            (try simp only [Act.put, List.setIfInBounds_toArray, List.set_cons_zero, List.set_cons_succ])
            refine wpAnyH_take (i := 25) (oi := { dst := (some 82), op := (Go.Op.pick (Go.Operand.tmp 74) (Go.Operand.const (Go.Value.bool true)) (Go.Operand.tmp 81)), type := 4, pos := "law.go:107", after := #[{ on := 17, ground := Go.Ground.data }, { on := 24, ground := Go.Ground.data }], guard := none }) (v := ?_) rfl (by kernel_rfl) (by kernel_rfl) (by kernel_rfl) (fun _ _ _ h => h) (Or.inl ⟨by rfl, (by intro w hSw; (try dsimp only at hSw); go_simp; try with_reducible rfl)⟩) (by assumption) ?_
            (try simp only [Act.put, List.setIfInBounds_toArray, List.set_cons_zero, List.set_cons_succ])
            refine wpAnyH_done (by kernel_rfl) ?_ _
            go_wp2_with (go_at_call 9; refine awake_calls.mono ?_; rintro e z9 ⟨rfl, hu9⟩)
            go_ret
            exact ⟨rfl, (HPB.out.trans HUd.out (fun _ _ h => h)).trans hu9 (fun _ _ h => h)⟩
          · have HOA := As.mk hoa
            have R1 := P1.out; have R3 := P3.out; have R2 := P2.out
            rw [hoa] at R1
            rw [Bool.false_or, decide_eq_false (show ¬ a = [] from han)] at R1
            have HR1 := As.mk R1; have HR2 := As.mk R2; have HR3 := As.mk R3; clear R1 R2 R3
            have hal0 : ((a.length : Int) == 0) = false := by simp; exact han
            have hal1 : (a.length == 0) = false := by simp; exact han
            clear hoa han
            have hzX := HU2.out.size
            go_wp2_with (at_builtin; refine Rp.append_row intR (c := ca) (Rp.own_empty (F := fun _ => True) intR (heap_alloc_new w2 _) trivial) (Rp.row'_of (Rp.row_pure HA.out (HPB.out.trans (HU2.out.alloc _) (fun _ _ h => h))) (fun _ _ h => h)) (Fz := fun _ => False) (fun _ h => h.elim) rfl _ _ 26 (.int .i64 0) 8 rfl Try.underlying26 int_info rfl (by decide) (by decide) rfl rfl (by simp; omega) ?_; intro v1 w7 ho1 hu1 hat1; have HO1 := As.mk (int_own_fp ho1); have HU7 := As.mk (Upd.trans (HU2.out.alloc _) hu1 (fun q hq h => by simp [Value.ownBlock] at h; omega)); have HAT := As.mk hat1; clear ho1 hu1 hat1; apply As.out)
            refine ⟨?_⟩
            have hv1 : ∀ q, v1.ownBlock = some q → Wb.heap.size ≤ q := by
              intro q hq
              rcases HAT.out with h | ⟨b1, h, hb1⟩
              · rw [h] at hq; simp [Value.ownBlock] at hq; omega
              · rw [h] at hq; simp at hq hb1; omega
            have HV1 := As.mk hv1; clear hv1 HAT
            go_wp2_with (at_builtin; refine Rp.append_row intR (c := cb) HO1.out (Rp.row'_of (Rp.row_pure HB.out (HPB.out.trans HU7.out (fun _ _ h => h))) (fun _ _ h => h)) (Fz := fun _ => False) (fun _ h => h.elim) rfl _ _ 26 (.int .i64 0) 8 rfl Try.underlying26 int_info rfl (by decide) (by decide) rfl rfl (by simp; omega) ?_; intro v2 w9 ho2 hu2 hat2; have HO2 := As.mk (int_own_fp ho2); have HU9 := As.mk (Upd.trans HU7.out hu2 (fun q hq h => by have := HV1.out q h; omega)); clear ho2 hu2 hat2; apply As.out)
            refine ⟨?_⟩
            obtain ⟨ab, hab⟩ : ∃ ab, ab = a ++ b := ⟨_, rfl⟩
            have ho3 := HO2.out
            rw [List.nil_append, ← hab] at ho3
            obtain ⟨A2, c2, rfl, _, hr3⟩ := Rp.own_slice ho3
            have HR9 := As.mk hr3
            have habl : ab.length ≤ 1048576 * 4 := by rw [hab, List.length_append]; omega
            clear hab ho3 hr3
            go_wp2
            refine wp_region_held_drew (S := (fun v => v.cell? ⟨w.heap.size, 0, none⟩ = some (.int .i64 k0) ∧ v.cell? ⟨w.heap.size, 1, none⟩ = some (.string nm) ∧ v.cell? ⟨w.heap.size, 2, none⟩ = some (.slice A l.length c) ∧ v.cell? ⟨n + 1, 0, none⟩ = some (.int .i64 6) ∧ v.cell? ⟨n + 1, 1, none⟩ = some (.string noName) ∧ v.cell? ⟨n + 1, 2, none⟩ = some (.slice (some ⟨n, 0, none⟩) 1 1) ∧ v.cell? ⟨n + 1 + 1 + 1, 0, none⟩ = some (.int .i64 4) ∧ v.cell? ⟨n + 1 + 1 + 1, 1, none⟩ = some (.string noName) ∧ v.cell? ⟨n + 1 + 1 + 1, 2, none⟩ = some (.slice (some ⟨n + 1 + 1, 0, none⟩) 1 1) ∧ v.cell? ⟨n + 1 + 1 + 1 + 1 + 1, 0, none⟩ = some (.int .i64 5) ∧ v.cell? ⟨n + 1 + 1 + 1 + 1 + 1, 1, none⟩ = some (.string noName) ∧ v.cell? ⟨n + 1 + 1 + 1 + 1 + 1, 2, none⟩ = some (.slice (some ⟨n + 1 + 1 + 1 + 1, 0, none⟩) 1 1))) (by kernel_rfl) ?_ (fun hHeld => ?_)
            · first | exact HS.out _ HUd.out | exact HS.out _ HUc.out | exact HS.out _ HUb.out | exact HS.out _ HUa.out | exact HS.out _ HU9.out.drew
            refine wpAnyH_take (i := 0) (oi := { dst := (some 57), op := (Go.Op.load 24 (Go.Operand.tmp 9)), type := 24, pos := "law.go:107", after := #[], guard := none }) (v := ?_) rfl (by kernel_rfl) (by kernel_rfl) (by kernel_rfl) (fun _ _ _ h => h) (Or.inl ⟨by rfl, (by intro w hSw; (try dsimp only at hSw); go_simp; try with_reducible rfl)⟩) (by assumption) ?_
            (try simp only [Act.put, List.setIfInBounds_toArray, List.set_cons_zero, List.set_cons_succ])
            refine wpAnyH_take (i := 1) (oi := { dst := (some 58), op := (Go.Op.move (Go.Operand.tmp 1)), type := 25, pos := "law.go:107", after := #[], guard := none }) (v := ?_) rfl (by kernel_rfl) (by kernel_rfl) (by kernel_rfl) (fun _ _ _ h => h) (Or.inl ⟨by rfl, (by intro w hSw; (try dsimp only at hSw); go_simp; try with_reducible rfl)⟩) (by assumption) ?_
            (try simp only [Act.put, List.setIfInBounds_toArray, List.set_cons_zero, List.set_cons_succ])
            refine wpAnyH_take (i := 2) (oi := { dst := (some 59), op := (Go.Op.move (Go.Operand.tmp 2)), type := 26, pos := "law.go:107", after := #[], guard := none }) (v := ?_) rfl (by kernel_rfl) (by kernel_rfl) (by kernel_rfl) (fun _ _ _ h => h) (Or.inl ⟨by rfl, (by intro w hSw; (try dsimp only at hSw); go_simp; try with_reducible rfl)⟩) (by assumption) ?_
            (try simp only [Act.put, List.setIfInBounds_toArray, List.set_cons_zero, List.set_cons_succ])
            refine wpAnyH_take (i := 4) (oi := { dst := (some 61), op := (Go.Op.move (Go.Operand.tmp 12)), type := 4, pos := "law.go:107", after := #[], guard := none }) (v := ?_) rfl (by kernel_rfl) (by kernel_rfl) (by kernel_rfl) (fun _ _ _ h => h) (Or.inl ⟨by rfl, (by intro w hSw; (try dsimp only at hSw); go_simp; try with_reducible rfl)⟩) (by assumption) ?_
            (try simp only [Act.put, List.setIfInBounds_toArray, List.set_cons_zero, List.set_cons_succ])
            refine wpAnyH_ready (rs := [3]) (by kernel_rfl) (by simp) (AllReadyH.cons (o := { dst := (some 60), op := (Go.Op.call { callee := (Go.Callee.value (Go.Operand.func 10)), args := #[(Go.Operand.tmp 57), (Go.Operand.tmp 58), (Go.Operand.tmp 59)], argTypes := #[24, 25, 26] }), type := 4, pos := "law.go:107", after := #[{ on := 0, ground := Go.Ground.data }, { on := 1, ground := Go.Ground.data }, { on := 2, ground := Go.Ground.data }], guard := none }) rfl (fun K hK => ?_) AllReadyH.nil)
            go_simp
            (first | (go_at_call 10; refine (HE_.out _ HUc.out [] (fun _ => True) none 0 (.inl rfl) (by simp)).mono ?_; rintro e wd ⟨rfl, hu⟩; have HUd := As.mk (Upd.trans HUc.out hu (fun _ _ h => h)); have HVd := As.mk (Upd.trans HVc.out hu (fun _ _ h => h)); clear hu) | (go_at_call 10; refine (HP_.out _ HUb.out [] (fun _ => True) none 0 (.inl rfl) (by simp)).mono ?_; rintro e wc ⟨rfl, hu⟩; rw [HR3.out]; have HUc := As.mk (Upd.trans HUb.out hu (fun _ _ h => h)); have HVc := As.mk (Upd.trans HVb.out hu (fun _ _ h => h)); clear hu) | (go_at_call 10; refine (HS_.out _ HUa.out [] (fun _ => True) none 0 (.inl rfl) (by simp)).mono ?_; rintro e wb ⟨rfl, hu⟩; rw [HR2.out]; have HUb := As.mk (Upd.trans HUa.out hu (fun _ _ h => h)); have HVb := As.mk (Upd.trans HVa.out hu (fun _ _ h => h)); clear hu) | (go_at_call 10; refine (HO_.out _ HU9.out.drew a _ Aa ca (Rp.row_pure HA.out (HPB.out.trans HU9.out.drew (fun _ _ h => h))) (by omega)).mono ?_; rintro e wa ⟨rfl, hu⟩; rw [HR1.out]; have HUa := As.mk (Upd.trans HU9.out.drew hu (fun _ _ h => h)); have HVa := As.mk (hu); clear hu))
            refine hK.out _ _ (by first | exact HS.out _ HUd.out | exact HS.out _ HUc.out | exact HS.out _ HUb.out | exact HS.out _ HUa.out | exact HS.out _ HU9.out.drew) (fun hHeld => ?_)
            clear hK K
            (try simp only [Act.put, List.setIfInBounds_toArray, List.set_cons_zero, List.set_cons_succ])
            refine wpAnyH_take (i := 5) (oi := { dst := (some 62), op := (Go.Op.move (Go.Operand.tmp 61)), type := 4, pos := "law.go:107", after := #[{ on := 4, ground := Go.Ground.data }, { on := 3, ground := Go.Ground.chain }], guard := none }) (v := ?_) rfl (by kernel_rfl) (by kernel_rfl) (by kernel_rfl) (fun _ _ _ h => h) (Or.inl ⟨by rfl, (by intro w hSw; (try dsimp only at hSw); go_simp; try with_reducible rfl)⟩) (by assumption) ?_
            (try simp only [Act.put, List.setIfInBounds_toArray, List.set_cons_zero, List.set_cons_succ])
            refine wpAnyH_take (i := 6) (oi := { dst := (some 63), op := (Go.Op.move (Go.Operand.tmp 2)), type := 26, pos := "law.go:107", after := #[{ on := 5, ground := Go.Ground.guard }], guard := (some (5, false)) }) (v := ?_) rfl (by kernel_rfl) (by kernel_rfl) (by kernel_rfl) (fun _ _ _ h => h) (Or.inl ⟨by rfl, (by intro w hSw; (try dsimp only at hSw); go_simp; try with_reducible rfl)⟩) (by assumption) ?_
            (try simp only [Act.put, List.setIfInBounds_toArray, List.set_cons_zero, List.set_cons_succ])
            refine wpAnyH_take (i := 7) (oi := { dst := (some 64), op := (Go.Op.call { callee := (Go.Callee.builtin Go.Builtin.len), args := #[(Go.Operand.tmp 63)], argTypes := #[26] }), type := 3, pos := "law.go:107", after := #[{ on := 6, ground := Go.Ground.data }, { on := 5, ground := Go.Ground.guard }], guard := (some (5, false)) }) (v := ?_) rfl (by kernel_rfl) (by kernel_rfl) (by kernel_rfl) (fun _ _ _ h => h) (Or.inl ⟨by rfl, (by intro w hSw; (try dsimp only at hSw); go_simp; try with_reducible rfl)⟩) (by assumption) ?_
            (try simp only [Act.put, List.setIfInBounds_toArray, List.set_cons_zero, List.set_cons_succ])
            refine wpAnyH_take (i := 8) (oi := { dst := (some 65), op := (Go.Op.binOp Go.BinOp.eql 3 (Go.Operand.tmp 64) (Go.Operand.const (Go.Value.int Go.IntKind.i64 0)) 3), type := 4, pos := "law.go:107", after := #[{ on := 7, ground := Go.Ground.data }, { on := 5, ground := Go.Ground.guard }], guard := (some (5, false)) }) (v := ?_) rfl (by kernel_rfl) (by kernel_rfl) (by kernel_rfl) (fun _ _ _ h => h) (Or.inl ⟨by rfl, (by intro w hSw; (try dsimp only at hSw); go_simp; try with_reducible rfl)⟩) (by assumption) ?_
            (try simp only [Act.put, List.setIfInBounds_toArray, List.set_cons_zero, List.set_cons_succ])
            refine wpAnyH_take (i := 9) (oi := { dst := (some 66), op := (Go.Op.pick (Go.Operand.tmp 62) (Go.Operand.const (Go.Value.bool true)) (Go.Operand.tmp 65)), type := 4, pos := "law.go:107", after := #[{ on := 5, ground := Go.Ground.data }, { on := 8, ground := Go.Ground.data }], guard := none }) (v := ?_) rfl (by kernel_rfl) (by kernel_rfl) (by kernel_rfl) (fun _ _ _ h => h) (Or.inl ⟨by rfl, (by intro w hSw; (try dsimp only at hSw); go_simp; try with_reducible rfl)⟩) (by assumption) ?_
            (try simp only [Act.put, List.setIfInBounds_toArray, List.set_cons_zero, List.set_cons_succ])
            refine wpAnyH_take (i := 10) (oi := { dst := (some 67), op := (Go.Op.binOp Go.BinOp.neq 4 (Go.Operand.tmp 60) (Go.Operand.tmp 66) 4), type := 4, pos := "law.go:107", after := #[{ on := 3, ground := Go.Ground.data }, { on := 9, ground := Go.Ground.data }], guard := none }) (v := ?_) rfl (by kernel_rfl) (by kernel_rfl) (by kernel_rfl) (fun _ _ _ h => h) (Or.inl ⟨by rfl, (by intro w hSw; (try dsimp only at hSw); go_simp; try with_reducible rfl)⟩) (by assumption) ?_
            (try simp only [Act.put, List.setIfInBounds_toArray, List.set_cons_zero, List.set_cons_succ])
            refine wpAnyH_take (i := 11) (oi := { dst := (some 68), op := (Go.Op.move (Go.Operand.tmp 67)), type := 4, pos := "law.go:107", after := #[{ on := 10, ground := Go.Ground.data }, { on := 5, ground := Go.Ground.chain }], guard := none }) (v := ?_) rfl (by kernel_rfl) (by kernel_rfl) (by kernel_rfl) (fun _ _ _ h => h) (Or.inl ⟨by rfl, (by intro w hSw; (try dsimp only at hSw); go_simp; try with_reducible rfl)⟩) (by assumption) ?_
            (try simp only [Act.put, List.setIfInBounds_toArray, List.set_cons_zero, List.set_cons_succ])
            refine wpAnyH_take (i := 12) (oi := { dst := (some 69), op := (Go.Op.load 24 (Go.Operand.tmp 10)), type := 24, pos := "law.go:107", after := #[{ on := 11, ground := Go.Ground.guard }], guard := (some (11, false)) }) (v := ?_) rfl (by kernel_rfl) (by kernel_rfl) (by kernel_rfl) (fun _ _ _ h => h) (Or.inl ⟨by rfl, (by intro w hSw; (try dsimp only at hSw); go_simp; try with_reducible rfl)⟩) (by assumption) ?_
            (try simp only [Act.put, List.setIfInBounds_toArray, List.set_cons_zero, List.set_cons_succ])
            refine wpAnyH_take (i := 13) (oi := { dst := (some 70), op := (Go.Op.move (Go.Operand.tmp 1)), type := 25, pos := "law.go:107", after := #[{ on := 11, ground := Go.Ground.guard }], guard := (some (11, false)) }) (v := ?_) rfl (by kernel_rfl) (by kernel_rfl) (by kernel_rfl) (fun _ _ _ h => h) (Or.inl ⟨by rfl, (by intro w hSw; (try dsimp only at hSw); go_simp; try with_reducible rfl)⟩) (by assumption) ?_
            (try simp only [Act.put, List.setIfInBounds_toArray, List.set_cons_zero, List.set_cons_succ])
            refine wpAnyH_ready (rs := [14]) (by kernel_rfl) (by simp) (AllReadyH.cons (o := { dst := (some 71), op := (Go.Op.call { callee := (Go.Callee.value (Go.Operand.func 10)), args := #[(Go.Operand.tmp 69), (Go.Operand.tmp 70), (Go.Operand.const (Go.Value.slice none 0 0))], argTypes := #[24, 25, 26] }), type := 4, pos := "law.go:107", after := #[{ on := 12, ground := Go.Ground.data }, { on := 13, ground := Go.Ground.data }, { on := 11, ground := Go.Ground.chain }, { on := 11, ground := Go.Ground.guard }], guard := (some (11, false)) }) rfl (fun K hK => ?_) AllReadyH.nil)
            go_simp
            (first | (go_at_call 10; refine (HE_.out _ HUc.out [] (fun _ => True) none 0 (.inl rfl) (by simp)).mono ?_; rintro e wd ⟨rfl, hu⟩; have HUd := As.mk (Upd.trans HUc.out hu (fun _ _ h => h)); have HVd := As.mk (Upd.trans HVc.out hu (fun _ _ h => h)); clear hu) | (go_at_call 10; refine (HP_.out _ HUb.out [] (fun _ => True) none 0 (.inl rfl) (by simp)).mono ?_; rintro e wc ⟨rfl, hu⟩; rw [HR3.out]; have HUc := As.mk (Upd.trans HUb.out hu (fun _ _ h => h)); have HVc := As.mk (Upd.trans HVb.out hu (fun _ _ h => h)); clear hu) | (go_at_call 10; refine (HS_.out _ HUa.out [] (fun _ => True) none 0 (.inl rfl) (by simp)).mono ?_; rintro e wb ⟨rfl, hu⟩; rw [HR2.out]; have HUb := As.mk (Upd.trans HUa.out hu (fun _ _ h => h)); have HVb := As.mk (Upd.trans HVa.out hu (fun _ _ h => h)); clear hu) | (go_at_call 10; refine (HO_.out _ HU9.out.drew a _ Aa ca (Rp.row_pure HA.out (HPB.out.trans HU9.out.drew (fun _ _ h => h))) (by omega)).mono ?_; rintro e wa ⟨rfl, hu⟩; rw [HR1.out]; have HUa := As.mk (Upd.trans HU9.out.drew hu (fun _ _ h => h)); have HVa := As.mk (hu); clear hu))
            refine hK.out _ _ (by first | exact HS.out _ HUd.out | exact HS.out _ HUc.out | exact HS.out _ HUb.out | exact HS.out _ HUa.out | exact HS.out _ HU9.out.drew) (fun hHeld => ?_)
            clear hK K
            (try simp only [Act.put, List.setIfInBounds_toArray, List.set_cons_zero, List.set_cons_succ])
            refine wpAnyH_take (i := 15) (oi := { dst := (some 72), op := (Go.Op.unOp Go.UnOp.not 4 (Go.Operand.tmp 71)), type := 4, pos := "law.go:107", after := #[{ on := 14, ground := Go.Ground.data }, { on := 11, ground := Go.Ground.guard }], guard := (some (11, false)) }) (v := ?_) rfl (by kernel_rfl) (by kernel_rfl) (by kernel_rfl) (fun _ _ _ h => h) (Or.inl ⟨by rfl, (by intro w hSw; (try dsimp only at hSw); go_simp; try with_reducible rfl)⟩) (by assumption) ?_
            (try simp only [Act.put, List.setIfInBounds_toArray, List.set_cons_zero, List.set_cons_succ])
            refine wpAnyH_take (i := 16) (oi := { dst := (some 73), op := (Go.Op.pick (Go.Operand.tmp 68) (Go.Operand.const (Go.Value.bool true)) (Go.Operand.tmp 72)), type := 4, pos := "law.go:107", after := #[{ on := 11, ground := Go.Ground.data }, { on := 15, ground := Go.Ground.data }], guard := none }) (v := ?_) rfl (by kernel_rfl) (by kernel_rfl) (by kernel_rfl) (fun _ _ _ h => h) (Or.inl ⟨by rfl, (by intro w hSw; (try dsimp only at hSw); go_simp; try with_reducible rfl)⟩) (by assumption) ?_
            (try simp only [Act.put, List.setIfInBounds_toArray, List.set_cons_zero, List.set_cons_succ])
            refine wpAnyH_take (i := 17) (oi := { dst := (some 74), op := (Go.Op.move (Go.Operand.tmp 73)), type := 4, pos := "law.go:107", after := #[{ on := 16, ground := Go.Ground.data }, { on := 14, ground := Go.Ground.chain }], guard := none }) (v := ?_) rfl (by kernel_rfl) (by kernel_rfl) (by kernel_rfl) (fun _ _ _ h => h) (Or.inl ⟨by rfl, (by intro w hSw; (try dsimp only at hSw); go_simp; try with_reducible rfl)⟩) (by assumption) ?_
            (try simp only [Act.put, List.setIfInBounds_toArray, List.set_cons_zero, List.set_cons_succ])
            refine wpAnyH_take (i := 18) (oi := { dst := (some 75), op := (Go.Op.load 24 (Go.Operand.tmp 11)), type := 24, pos := "law.go:107", after := #[{ on := 17, ground := Go.Ground.guard }], guard := (some (17, false)) }) (v := ?_) rfl (by kernel_rfl) (by kernel_rfl) (by kernel_rfl) (fun _ _ _ h => h) (Or.inl ⟨by rfl, (by intro w hSw; (try dsimp only at hSw); go_simp; try with_reducible rfl)⟩) (by assumption) ?_
            (try simp only [Act.put, List.setIfInBounds_toArray, List.set_cons_zero, List.set_cons_succ])
            refine wpAnyH_take (i := 19) (oi := { dst := (some 76), op := (Go.Op.move (Go.Operand.tmp 1)), type := 25, pos := "law.go:107", after := #[{ on := 17, ground := Go.Ground.guard }], guard := (some (17, false)) }) (v := ?_) rfl (by kernel_rfl) (by kernel_rfl) (by kernel_rfl) (fun _ _ _ h => h) (Or.inl ⟨by rfl, (by intro w hSw; (try dsimp only at hSw); go_simp; try with_reducible rfl)⟩) (by assumption) ?_
            (try simp only [Act.put, List.setIfInBounds_toArray, List.set_cons_zero, List.set_cons_succ])
            refine wpAnyH_take (i := 21) (oi := { dst := (some 78), op := (Go.Op.load 24 (Go.Operand.tmp 4)), type := 24, pos := "law.go:107", after := #[{ on := 17, ground := Go.Ground.guard }], guard := (some (17, false)) }) (v := ?_) rfl (by kernel_rfl) (by kernel_rfl) (by kernel_rfl) (fun _ _ _ h => h) (Or.inl ⟨by rfl, (by intro w hSw; (try dsimp only at hSw); go_simp; try with_reducible rfl)⟩) (by assumption) ?_
            (try simp only [Act.put, List.setIfInBounds_toArray, List.set_cons_zero, List.set_cons_succ])
            refine wpAnyH_take (i := 22) (oi := { dst := (some 79), op := (Go.Op.move (Go.Operand.tmp 1)), type := 25, pos := "law.go:107", after := #[{ on := 17, ground := Go.Ground.guard }], guard := (some (17, false)) }) (v := ?_) rfl (by kernel_rfl) (by kernel_rfl) (by kernel_rfl) (fun _ _ _ h => h) (Or.inl ⟨by rfl, (by intro w hSw; (try dsimp only at hSw); go_simp; try with_reducible rfl)⟩) (by assumption) ?_
            (try simp only [Act.put, List.setIfInBounds_toArray, List.set_cons_zero, List.set_cons_succ])
            refine wpAnyH_ready (rs := [20]) (by kernel_rfl) (by simp) (AllReadyH.cons (o := { dst := (some 77), op := (Go.Op.call { callee := (Go.Callee.value (Go.Operand.func 10)), args := #[(Go.Operand.tmp 75), (Go.Operand.tmp 76), (Go.Operand.const (Go.Value.slice none 0 0))], argTypes := #[24, 25, 26] }), type := 4, pos := "law.go:107", after := #[{ on := 18, ground := Go.Ground.data }, { on := 19, ground := Go.Ground.data }, { on := 17, ground := Go.Ground.chain }, { on := 17, ground := Go.Ground.guard }], guard := (some (17, false)) }) rfl (fun K hK => ?_) AllReadyH.nil)
            go_simp
            (first | (go_at_call 10; refine (HE_.out _ HUc.out [] (fun _ => True) none 0 (.inl rfl) (by simp)).mono ?_; rintro e wd ⟨rfl, hu⟩; have HUd := As.mk (Upd.trans HUc.out hu (fun _ _ h => h)); have HVd := As.mk (Upd.trans HVc.out hu (fun _ _ h => h)); clear hu) | (go_at_call 10; refine (HP_.out _ HUb.out [] (fun _ => True) none 0 (.inl rfl) (by simp)).mono ?_; rintro e wc ⟨rfl, hu⟩; rw [HR3.out]; have HUc := As.mk (Upd.trans HUb.out hu (fun _ _ h => h)); have HVc := As.mk (Upd.trans HVb.out hu (fun _ _ h => h)); clear hu) | (go_at_call 10; refine (HS_.out _ HUa.out [] (fun _ => True) none 0 (.inl rfl) (by simp)).mono ?_; rintro e wb ⟨rfl, hu⟩; rw [HR2.out]; have HUb := As.mk (Upd.trans HUa.out hu (fun _ _ h => h)); have HVb := As.mk (Upd.trans HVa.out hu (fun _ _ h => h)); clear hu) | (go_at_call 10; refine (HO_.out _ HU9.out.drew a _ Aa ca (Rp.row_pure HA.out (HPB.out.trans HU9.out.drew (fun _ _ h => h))) (by omega)).mono ?_; rintro e wa ⟨rfl, hu⟩; rw [HR1.out]; have HUa := As.mk (Upd.trans HU9.out.drew hu (fun _ _ h => h)); have HVa := As.mk (hu); clear hu))
            refine hK.out _ _ (by first | exact HS.out _ HUd.out | exact HS.out _ HUc.out | exact HS.out _ HUb.out | exact HS.out _ HUa.out | exact HS.out _ HU9.out.drew) (fun hHeld => ?_)
            clear hK K
            (try simp only [Act.put, List.setIfInBounds_toArray, List.set_cons_zero, List.set_cons_succ])
            refine wpAnyH_ready (rs := [23]) (by kernel_rfl) (by simp) (AllReadyH.cons (o := { dst := (some 80), op := (Go.Op.call { callee := (Go.Callee.value (Go.Operand.func 10)), args := #[(Go.Operand.tmp 78), (Go.Operand.tmp 79), (Go.Operand.const (Go.Value.slice none 0 0))], argTypes := #[24, 25, 26] }), type := 4, pos := "law.go:107", after := #[{ on := 21, ground := Go.Ground.data }, { on := 22, ground := Go.Ground.data }, { on := 20, ground := Go.Ground.chain }, { on := 17, ground := Go.Ground.guard }], guard := (some (17, false)) }) rfl (fun K hK => ?_) AllReadyH.nil)
            go_simp
            (first | (go_at_call 10; refine (HE_.out _ HUc.out [] (fun _ => True) none 0 (.inl rfl) (by simp)).mono ?_; rintro e wd ⟨rfl, hu⟩; have HUd := As.mk (Upd.trans HUc.out hu (fun _ _ h => h)); have HVd := As.mk (Upd.trans HVc.out hu (fun _ _ h => h)); clear hu) | (go_at_call 10; refine (HP_.out _ HUb.out [] (fun _ => True) none 0 (.inl rfl) (by simp)).mono ?_; rintro e wc ⟨rfl, hu⟩; rw [HR3.out]; have HUc := As.mk (Upd.trans HUb.out hu (fun _ _ h => h)); have HVc := As.mk (Upd.trans HVb.out hu (fun _ _ h => h)); clear hu) | (go_at_call 10; refine (HS_.out _ HUa.out [] (fun _ => True) none 0 (.inl rfl) (by simp)).mono ?_; rintro e wb ⟨rfl, hu⟩; rw [HR2.out]; have HUb := As.mk (Upd.trans HUa.out hu (fun _ _ h => h)); have HVb := As.mk (Upd.trans HVa.out hu (fun _ _ h => h)); clear hu) | (go_at_call 10; refine (HO_.out _ HU9.out.drew a _ Aa ca (Rp.row_pure HA.out (HPB.out.trans HU9.out.drew (fun _ _ h => h))) (by omega)).mono ?_; rintro e wa ⟨rfl, hu⟩; rw [HR1.out]; have HUa := As.mk (Upd.trans HU9.out.drew hu (fun _ _ h => h)); have HVa := As.mk (hu); clear hu))
            refine hK.out _ _ (by first | exact HS.out _ HUd.out | exact HS.out _ HUc.out | exact HS.out _ HUb.out | exact HS.out _ HUa.out | exact HS.out _ HU9.out.drew) (fun hHeld => ?_)
            clear hK K
            (try simp only [Act.put, List.setIfInBounds_toArray, List.set_cons_zero, List.set_cons_succ])
            refine wpAnyH_take (i := 24) (oi := { dst := (some 81), op := (Go.Op.binOp Go.BinOp.neq 4 (Go.Operand.tmp 77) (Go.Operand.tmp 80) 4), type := 4, pos := "law.go:107", after := #[{ on := 20, ground := Go.Ground.data }, { on := 23, ground := Go.Ground.data }, { on := 17, ground := Go.Ground.guard }], guard := (some (17, false)) }) (v := ?_) rfl (by kernel_rfl) (by kernel_rfl) (by kernel_rfl) (fun _ _ _ h => h) (Or.inl ⟨by rfl, (by intro w hSw; (try dsimp only at hSw); go_simp; try with_reducible rfl)⟩) (by assumption) ?_
            (try simp only [Act.put, List.setIfInBounds_toArray, List.set_cons_zero, List.set_cons_succ])
            refine wpAnyH_take (i := 25) (oi := { dst := (some 82), op := (Go.Op.pick (Go.Operand.tmp 74) (Go.Operand.const (Go.Value.bool true)) (Go.Operand.tmp 81)), type := 4, pos := "law.go:107", after := #[{ on := 17, ground := Go.Ground.data }, { on := 24, ground := Go.Ground.data }], guard := none }) (v := ?_) rfl (by kernel_rfl) (by kernel_rfl) (by kernel_rfl) (fun _ _ _ h => h) (Or.inl ⟨by rfl, (by intro w hSw; (try dsimp only at hSw); go_simp; try with_reducible rfl)⟩) (by assumption) ?_
            (try simp only [Act.put, List.setIfInBounds_toArray, List.set_cons_zero, List.set_cons_succ])
            refine wpAnyH_done (by kernel_rfl) ?_ _
            go_wp2_with (go_at_call 9; refine awake_calls.mono ?_; rintro e z9 ⟨rfl, hu9⟩)
            go_ret
            exact ⟨rfl, (HPB.out.trans HUd.out (fun _ _ h => h)).trans hu9 (fun _ _ h => h)⟩
        · cases hob : regAccepts (.mk k0 nm l) g b
          · have HOA := As.mk hoa
            have R1 := P1.out; have R3 := P3.out; have R2 := P2.out
            rw [hoa] at R1
            rw [Bool.true_or] at R1
            have HR1 := As.mk R1; have HR2 := As.mk R2; have HR3 := As.mk R3; clear R1 R2 R3
            clear hoa
            obtain ⟨f0, f1, f2, f3, f4, f5, f6, f7, f8, f9, f10, f11⟩ := HS.out _ HU2.out
            go_wp2_with (go_at_call 10; refine (HE_.out _ HU2.out b _ Ab cb (Rp.row_pure HB.out (HPB.out.trans HU2.out (fun _ _ h => h))) (by omega)).mono ?_; rintro e w3 ⟨rfl, hu⟩; rw [hob]; have HU3 := As.mk (Upd.trans HU2.out hu (fun _ _ h => h)); clear hu; apply As.out)
            refine ⟨?_⟩
            clear f0 f1 f2 f3 f4 f5 f6 f7 f8 f9 f10 f11
            clear hob
            have hzX := HU3.out.size
            go_wp2_with (at_builtin; refine Rp.append_row intR (c := ca) (Rp.own_empty (F := fun _ => True) intR (heap_alloc_new w3 _) trivial) (Rp.row'_of (Rp.row_pure HA.out (HPB.out.trans (HU3.out.alloc _) (fun _ _ h => h))) (fun _ _ h => h)) (Fz := fun _ => False) (fun _ h => h.elim) rfl _ _ 26 (.int .i64 0) 8 rfl Try.underlying26 int_info rfl (by decide) (by decide) rfl rfl (by simp; omega) ?_; intro v1 w7 ho1 hu1 hat1; have HO1 := As.mk (int_own_fp ho1); have HU7 := As.mk (Upd.trans (HU3.out.alloc _) hu1 (fun q hq h => by simp [Value.ownBlock] at h; omega)); have HAT := As.mk hat1; clear ho1 hu1 hat1; apply As.out)
            refine ⟨?_⟩
            have hv1 : ∀ q, v1.ownBlock = some q → Wb.heap.size ≤ q := by
              intro q hq
              rcases HAT.out with h | ⟨b1, h, hb1⟩
              · rw [h] at hq; simp [Value.ownBlock] at hq; omega
              · rw [h] at hq; simp at hq hb1; omega
            have HV1 := As.mk hv1; clear hv1 HAT
            go_wp2_with (at_builtin; refine Rp.append_row intR (c := cb) HO1.out (Rp.row'_of (Rp.row_pure HB.out (HPB.out.trans HU7.out (fun _ _ h => h))) (fun _ _ h => h)) (Fz := fun _ => False) (fun _ h => h.elim) rfl _ _ 26 (.int .i64 0) 8 rfl Try.underlying26 int_info rfl (by decide) (by decide) rfl rfl (by simp; omega) ?_; intro v2 w9 ho2 hu2 hat2; have HO2 := As.mk (int_own_fp ho2); have HU9 := As.mk (Upd.trans HU7.out hu2 (fun q hq h => by have := HV1.out q h; omega)); clear ho2 hu2 hat2; apply As.out)
            refine ⟨?_⟩
            obtain ⟨ab, hab⟩ : ∃ ab, ab = a ++ b := ⟨_, rfl⟩
            have ho3 := HO2.out
            rw [List.nil_append, ← hab] at ho3
            obtain ⟨A2, c2, rfl, _, hr3⟩ := Rp.own_slice ho3
            have HR9 := As.mk hr3
            have habl : ab.length ≤ 1048576 * 4 := by rw [hab, List.length_append]; omega
            have HQ4 := As.mk (P4.out HOA.out)
            clear hab ho3 hr3
            go_wp2
            refine wp_region_held_drew (S := (fun v => v.cell? ⟨w.heap.size, 0, none⟩ = some (.int .i64 k0) ∧ v.cell? ⟨w.heap.size, 1, none⟩ = some (.string nm) ∧ v.cell? ⟨w.heap.size, 2, none⟩ = some (.slice A l.length c) ∧ v.cell? ⟨n + 1, 0, none⟩ = some (.int .i64 6) ∧ v.cell? ⟨n + 1, 1, none⟩ = some (.string noName) ∧ v.cell? ⟨n + 1, 2, none⟩ = some (.slice (some ⟨n, 0, none⟩) 1 1) ∧ v.cell? ⟨n + 1 + 1 + 1, 0, none⟩ = some (.int .i64 4) ∧ v.cell? ⟨n + 1 + 1 + 1, 1, none⟩ = some (.string noName) ∧ v.cell? ⟨n + 1 + 1 + 1, 2, none⟩ = some (.slice (some ⟨n + 1 + 1, 0, none⟩) 1 1) ∧ v.cell? ⟨n + 1 + 1 + 1 + 1 + 1, 0, none⟩ = some (.int .i64 5) ∧ v.cell? ⟨n + 1 + 1 + 1 + 1 + 1, 1, none⟩ = some (.string noName) ∧ v.cell? ⟨n + 1 + 1 + 1 + 1 + 1, 2, none⟩ = some (.slice (some ⟨n + 1 + 1 + 1 + 1, 0, none⟩) 1 1))) (by kernel_rfl) ?_ (fun hHeld => ?_)
            · first | exact HS.out _ HUd.out | exact HS.out _ HUc.out | exact HS.out _ HUb.out | exact HS.out _ HUa.out | exact HS.out _ HU9.out.drew
            refine wpAnyH_take (i := 0) (oi := { dst := (some 57), op := (Go.Op.load 24 (Go.Operand.tmp 9)), type := 24, pos := "law.go:107", after := #[], guard := none }) (v := ?_) rfl (by kernel_rfl) (by kernel_rfl) (by kernel_rfl) (fun _ _ _ h => h) (Or.inl ⟨by rfl, (by intro w hSw; (try dsimp only at hSw); go_simp; try with_reducible rfl)⟩) (by assumption) ?_
            (try simp only [Act.put, List.setIfInBounds_toArray, List.set_cons_zero, List.set_cons_succ])
            refine wpAnyH_take (i := 1) (oi := { dst := (some 58), op := (Go.Op.move (Go.Operand.tmp 1)), type := 25, pos := "law.go:107", after := #[], guard := none }) (v := ?_) rfl (by kernel_rfl) (by kernel_rfl) (by kernel_rfl) (fun _ _ _ h => h) (Or.inl ⟨by rfl, (by intro w hSw; (try dsimp only at hSw); go_simp; try with_reducible rfl)⟩) (by assumption) ?_
            (try simp only [Act.put, List.setIfInBounds_toArray, List.set_cons_zero, List.set_cons_succ])
            refine wpAnyH_take (i := 2) (oi := { dst := (some 59), op := (Go.Op.move (Go.Operand.tmp 2)), type := 26, pos := "law.go:107", after := #[], guard := none }) (v := ?_) rfl (by kernel_rfl) (by kernel_rfl) (by kernel_rfl) (fun _ _ _ h => h) (Or.inl ⟨by rfl, (by intro w hSw; (try dsimp only at hSw); go_simp; try with_reducible rfl)⟩) (by assumption) ?_
            (try simp only [Act.put, List.setIfInBounds_toArray, List.set_cons_zero, List.set_cons_succ])
            refine wpAnyH_take (i := 4) (oi := { dst := (some 61), op := (Go.Op.move (Go.Operand.tmp 12)), type := 4, pos := "law.go:107", after := #[], guard := none }) (v := ?_) rfl (by kernel_rfl) (by kernel_rfl) (by kernel_rfl) (fun _ _ _ h => h) (Or.inl ⟨by rfl, (by intro w hSw; (try dsimp only at hSw); go_simp; try with_reducible rfl)⟩) (by assumption) ?_
            (try simp only [Act.put, List.setIfInBounds_toArray, List.set_cons_zero, List.set_cons_succ])
            refine wpAnyH_ready (rs := [3]) (by kernel_rfl) (by simp) (AllReadyH.cons (o := { dst := (some 60), op := (Go.Op.call { callee := (Go.Callee.value (Go.Operand.func 10)), args := #[(Go.Operand.tmp 57), (Go.Operand.tmp 58), (Go.Operand.tmp 59)], argTypes := #[24, 25, 26] }), type := 4, pos := "law.go:107", after := #[{ on := 0, ground := Go.Ground.data }, { on := 1, ground := Go.Ground.data }, { on := 2, ground := Go.Ground.data }], guard := none }) rfl (fun K hK => ?_) AllReadyH.nil)
            go_simp
            (first | (go_at_call 10; refine (HE_.out _ HUc.out [] (fun _ => True) none 0 (.inl rfl) (by simp)).mono ?_; rintro e wd ⟨rfl, hu⟩; have HUd := As.mk (Upd.trans HUc.out hu (fun _ _ h => h)); have HVd := As.mk (Upd.trans HVc.out hu (fun _ _ h => h)); clear hu) | (go_at_call 10; refine (HP_.out _ HUb.out [] (fun _ => True) none 0 (.inl rfl) (by simp)).mono ?_; rintro e wc ⟨rfl, hu⟩; rw [HR3.out]; have HUc := As.mk (Upd.trans HUb.out hu (fun _ _ h => h)); have HVc := As.mk (Upd.trans HVb.out hu (fun _ _ h => h)); clear hu) | (go_at_call 10; refine (HS_.out _ HUa.out [] (fun _ => True) none 0 (.inl rfl) (by simp)).mono ?_; rintro e wb ⟨rfl, hu⟩; rw [HR2.out]; have HUb := As.mk (Upd.trans HUa.out hu (fun _ _ h => h)); have HVb := As.mk (Upd.trans HVa.out hu (fun _ _ h => h)); clear hu) | (go_at_call 10; refine (HO_.out _ HU9.out.drew a _ Aa ca (Rp.row_pure HA.out (HPB.out.trans HU9.out.drew (fun _ _ h => h))) (by omega)).mono ?_; rintro e wa ⟨rfl, hu⟩; rw [HR1.out]; have HUa := As.mk (Upd.trans HU9.out.drew hu (fun _ _ h => h)); have HVa := As.mk (hu); clear hu))
            refine hK.out _ _ (by first | exact HS.out _ HUd.out | exact HS.out _ HUc.out | exact HS.out _ HUb.out | exact HS.out _ HUa.out | exact HS.out _ HU9.out.drew) (fun hHeld => ?_)
            clear hK K
            (try simp only [Act.put, List.setIfInBounds_toArray, List.set_cons_zero, List.set_cons_succ])
            refine wpAnyH_take (i := 5) (oi := { dst := (some 62), op := (Go.Op.move (Go.Operand.tmp 61)), type := 4, pos := "law.go:107", after := #[{ on := 4, ground := Go.Ground.data }, { on := 3, ground := Go.Ground.chain }], guard := none }) (v := ?_) rfl (by kernel_rfl) (by kernel_rfl) (by kernel_rfl) (fun _ _ _ h => h) (Or.inl ⟨by rfl, (by intro w hSw; (try dsimp only at hSw); go_simp; try with_reducible rfl)⟩) (by assumption) ?_
            (try simp only [Act.put, List.setIfInBounds_toArray, List.set_cons_zero, List.set_cons_succ])
            refine wpAnyH_take (i := 6) (oi := { dst := (some 63), op := (Go.Op.move (Go.Operand.tmp 2)), type := 26, pos := "law.go:107", after := #[{ on := 5, ground := Go.Ground.guard }], guard := (some (5, false)) }) (v := undef) rfl (by kernel_rfl) (by kernel_rfl) (by kernel_rfl) (fun _ _ _ h => h) (Or.inr ⟨by rfl, rfl⟩) (by assumption) ?_
            (try simp only [Act.put, List.setIfInBounds_toArray, List.set_cons_zero, List.set_cons_succ])
            refine wpAnyH_take (i := 7) (oi := { dst := (some 64), op := (Go.Op.call { callee := (Go.Callee.builtin Go.Builtin.len), args := #[(Go.Operand.tmp 63)], argTypes := #[26] }), type := 3, pos := "law.go:107", after := #[{ on := 6, ground := Go.Ground.data }, { on := 5, ground := Go.Ground.guard }], guard := (some (5, false)) }) (v := undef) rfl (by kernel_rfl) (by kernel_rfl) (by kernel_rfl) (fun _ _ _ h => h) (Or.inr ⟨by rfl, rfl⟩) (by assumption) ?_
            (try simp only [Act.put, List.setIfInBounds_toArray, List.set_cons_zero, List.set_cons_succ])
            refine wpAnyH_take (i := 8) (oi := { dst := (some 65), op := (Go.Op.binOp Go.BinOp.eql 3 (Go.Operand.tmp 64) (Go.Operand.const (Go.Value.int Go.IntKind.i64 0)) 3), type := 4, pos := "law.go:107", after := #[{ on := 7, ground := Go.Ground.data }, { on := 5, ground := Go.Ground.guard }], guard := (some (5, false)) }) (v := undef) rfl (by kernel_rfl) (by kernel_rfl) (by kernel_rfl) (fun _ _ _ h => h) (Or.inr ⟨by rfl, rfl⟩) (by assumption) ?_
            (try simp only [Act.put, List.setIfInBounds_toArray, List.set_cons_zero, List.set_cons_succ])
            refine wpAnyH_take (i := 9) (oi := { dst := (some 66), op := (Go.Op.pick (Go.Operand.tmp 62) (Go.Operand.const (Go.Value.bool true)) (Go.Operand.tmp 65)), type := 4, pos := "law.go:107", after := #[{ on := 5, ground := Go.Ground.data }, { on := 8, ground := Go.Ground.data }], guard := none }) (v := ?_) rfl (by kernel_rfl) (by kernel_rfl) (by kernel_rfl) (fun _ _ _ h => h) (Or.inl ⟨by rfl, (by intro w hSw; (try dsimp only at hSw); go_simp; try with_reducible rfl)⟩) (by assumption) ?_
            (try simp only [Act.put, List.setIfInBounds_toArray, List.set_cons_zero, List.set_cons_succ])
            refine wpAnyH_take (i := 10) (oi := { dst := (some 67), op := (Go.Op.binOp Go.BinOp.neq 4 (Go.Operand.tmp 60) (Go.Operand.tmp 66) 4), type := 4, pos := "law.go:107", after := #[{ on := 3, ground := Go.Ground.data }, { on := 9, ground := Go.Ground.data }], guard := none }) (v := ?_) rfl (by kernel_rfl) (by kernel_rfl) (by kernel_rfl) (fun _ _ _ h => h) (Or.inl ⟨by rfl, (by intro w hSw; (try dsimp only at hSw); go_simp; try with_reducible rfl)⟩) (by assumption) ?_
            (try simp only [Act.put, List.setIfInBounds_toArray, List.set_cons_zero, List.set_cons_succ])
            refine wpAnyH_take (i := 11) (oi := { dst := (some 68), op := (Go.Op.move (Go.Operand.tmp 67)), type := 4, pos := "law.go:107", after := #[{ on := 10, ground := Go.Ground.data }, { on := 5, ground := Go.Ground.chain }], guard := none }) (v := ?_) rfl (by kernel_rfl) (by kernel_rfl) (by kernel_rfl) (fun _ _ _ h => h) (Or.inl ⟨by rfl, (by intro w hSw; (try dsimp only at hSw); go_simp; try with_reducible rfl)⟩) (by assumption) ?_
            (try simp only [Act.put, List.setIfInBounds_toArray, List.set_cons_zero, List.set_cons_succ])
            refine wpAnyH_take (i := 12) (oi := { dst := (some 69), op := (Go.Op.load 24 (Go.Operand.tmp 10)), type := 24, pos := "law.go:107", after := #[{ on := 11, ground := Go.Ground.guard }], guard := (some (11, false)) }) (v := ?_) rfl (by kernel_rfl) (by kernel_rfl) (by kernel_rfl) (fun _ _ _ h => h) (Or.inl ⟨by rfl, (by intro w hSw; (try dsimp only at hSw); go_simp; try with_reducible rfl)⟩) (by assumption) ?_
            (try simp only [Act.put, List.setIfInBounds_toArray, List.set_cons_zero, List.set_cons_succ])
            refine wpAnyH_take (i := 13) (oi := { dst := (some 70), op := (Go.Op.move (Go.Operand.tmp 1)), type := 25, pos := "law.go:107", after := #[{ on := 11, ground := Go.Ground.guard }], guard := (some (11, false)) }) (v := ?_) rfl (by kernel_rfl) (by kernel_rfl) (by kernel_rfl) (fun _ _ _ h => h) (Or.inl ⟨by rfl, (by intro w hSw; (try dsimp only at hSw); go_simp; try with_reducible rfl)⟩) (by assumption) ?_
            (try simp only [Act.put, List.setIfInBounds_toArray, List.set_cons_zero, List.set_cons_succ])
            refine wpAnyH_ready (rs := [14]) (by kernel_rfl) (by simp) (AllReadyH.cons (o := { dst := (some 71), op := (Go.Op.call { callee := (Go.Callee.value (Go.Operand.func 10)), args := #[(Go.Operand.tmp 69), (Go.Operand.tmp 70), (Go.Operand.const (Go.Value.slice none 0 0))], argTypes := #[24, 25, 26] }), type := 4, pos := "law.go:107", after := #[{ on := 12, ground := Go.Ground.data }, { on := 13, ground := Go.Ground.data }, { on := 11, ground := Go.Ground.chain }, { on := 11, ground := Go.Ground.guard }], guard := (some (11, false)) }) rfl (fun K hK => ?_) AllReadyH.nil)
            go_simp
            (first | (go_at_call 10; refine (HE_.out _ HUc.out [] (fun _ => True) none 0 (.inl rfl) (by simp)).mono ?_; rintro e wd ⟨rfl, hu⟩; have HUd := As.mk (Upd.trans HUc.out hu (fun _ _ h => h)); have HVd := As.mk (Upd.trans HVc.out hu (fun _ _ h => h)); clear hu) | (go_at_call 10; refine (HP_.out _ HUb.out [] (fun _ => True) none 0 (.inl rfl) (by simp)).mono ?_; rintro e wc ⟨rfl, hu⟩; rw [HR3.out]; have HUc := As.mk (Upd.trans HUb.out hu (fun _ _ h => h)); have HVc := As.mk (Upd.trans HVb.out hu (fun _ _ h => h)); clear hu) | (go_at_call 10; refine (HS_.out _ HUa.out [] (fun _ => True) none 0 (.inl rfl) (by simp)).mono ?_; rintro e wb ⟨rfl, hu⟩; rw [HR2.out]; have HUb := As.mk (Upd.trans HUa.out hu (fun _ _ h => h)); have HVb := As.mk (Upd.trans HVa.out hu (fun _ _ h => h)); clear hu) | (go_at_call 10; refine (HO_.out _ HU9.out.drew a _ Aa ca (Rp.row_pure HA.out (HPB.out.trans HU9.out.drew (fun _ _ h => h))) (by omega)).mono ?_; rintro e wa ⟨rfl, hu⟩; rw [HR1.out]; have HUa := As.mk (Upd.trans HU9.out.drew hu (fun _ _ h => h)); have HVa := As.mk (hu); clear hu))
            refine hK.out _ _ (by first | exact HS.out _ HUd.out | exact HS.out _ HUc.out | exact HS.out _ HUb.out | exact HS.out _ HUa.out | exact HS.out _ HU9.out.drew) (fun hHeld => ?_)
            clear hK K
            (try simp only [Act.put, List.setIfInBounds_toArray, List.set_cons_zero, List.set_cons_succ])
            refine wpAnyH_take (i := 15) (oi := { dst := (some 72), op := (Go.Op.unOp Go.UnOp.not 4 (Go.Operand.tmp 71)), type := 4, pos := "law.go:107", after := #[{ on := 14, ground := Go.Ground.data }, { on := 11, ground := Go.Ground.guard }], guard := (some (11, false)) }) (v := ?_) rfl (by kernel_rfl) (by kernel_rfl) (by kernel_rfl) (fun _ _ _ h => h) (Or.inl ⟨by rfl, (by intro w hSw; (try dsimp only at hSw); go_simp; try with_reducible rfl)⟩) (by assumption) ?_
            (try simp only [Act.put, List.setIfInBounds_toArray, List.set_cons_zero, List.set_cons_succ])
            refine wpAnyH_take (i := 16) (oi := { dst := (some 73), op := (Go.Op.pick (Go.Operand.tmp 68) (Go.Operand.const (Go.Value.bool true)) (Go.Operand.tmp 72)), type := 4, pos := "law.go:107", after := #[{ on := 11, ground := Go.Ground.data }, { on := 15, ground := Go.Ground.data }], guard := none }) (v := ?_) rfl (by kernel_rfl) (by kernel_rfl) (by kernel_rfl) (fun _ _ _ h => h) (Or.inl ⟨by rfl, (by intro w hSw; (try dsimp only at hSw); go_simp; try with_reducible rfl)⟩) (by assumption) ?_
            (try simp only [Act.put, List.setIfInBounds_toArray, List.set_cons_zero, List.set_cons_succ])
            refine wpAnyH_take (i := 17) (oi := { dst := (some 74), op := (Go.Op.move (Go.Operand.tmp 73)), type := 4, pos := "law.go:107", after := #[{ on := 16, ground := Go.Ground.data }, { on := 14, ground := Go.Ground.chain }], guard := none }) (v := ?_) rfl (by kernel_rfl) (by kernel_rfl) (by kernel_rfl) (fun _ _ _ h => h) (Or.inl ⟨by rfl, (by intro w hSw; (try dsimp only at hSw); go_simp; try with_reducible rfl)⟩) (by assumption) ?_
            (try simp only [Act.put, List.setIfInBounds_toArray, List.set_cons_zero, List.set_cons_succ])
            refine wpAnyH_take (i := 18) (oi := { dst := (some 75), op := (Go.Op.load 24 (Go.Operand.tmp 11)), type := 24, pos := "law.go:107", after := #[{ on := 17, ground := Go.Ground.guard }], guard := (some (17, false)) }) (v := ?_) rfl (by kernel_rfl) (by kernel_rfl) (by kernel_rfl) (fun _ _ _ h => h) (Or.inl ⟨by rfl, (by intro w hSw; (try dsimp only at hSw); go_simp; try with_reducible rfl)⟩) (by assumption) ?_
            (try simp only [Act.put, List.setIfInBounds_toArray, List.set_cons_zero, List.set_cons_succ])
            refine wpAnyH_take (i := 19) (oi := { dst := (some 76), op := (Go.Op.move (Go.Operand.tmp 1)), type := 25, pos := "law.go:107", after := #[{ on := 17, ground := Go.Ground.guard }], guard := (some (17, false)) }) (v := ?_) rfl (by kernel_rfl) (by kernel_rfl) (by kernel_rfl) (fun _ _ _ h => h) (Or.inl ⟨by rfl, (by intro w hSw; (try dsimp only at hSw); go_simp; try with_reducible rfl)⟩) (by assumption) ?_
            (try simp only [Act.put, List.setIfInBounds_toArray, List.set_cons_zero, List.set_cons_succ])
            refine wpAnyH_take (i := 21) (oi := { dst := (some 78), op := (Go.Op.load 24 (Go.Operand.tmp 4)), type := 24, pos := "law.go:107", after := #[{ on := 17, ground := Go.Ground.guard }], guard := (some (17, false)) }) (v := ?_) rfl (by kernel_rfl) (by kernel_rfl) (by kernel_rfl) (fun _ _ _ h => h) (Or.inl ⟨by rfl, (by intro w hSw; (try dsimp only at hSw); go_simp; try with_reducible rfl)⟩) (by assumption) ?_
            (try simp only [Act.put, List.setIfInBounds_toArray, List.set_cons_zero, List.set_cons_succ])
            refine wpAnyH_take (i := 22) (oi := { dst := (some 79), op := (Go.Op.move (Go.Operand.tmp 1)), type := 25, pos := "law.go:107", after := #[{ on := 17, ground := Go.Ground.guard }], guard := (some (17, false)) }) (v := ?_) rfl (by kernel_rfl) (by kernel_rfl) (by kernel_rfl) (fun _ _ _ h => h) (Or.inl ⟨by rfl, (by intro w hSw; (try dsimp only at hSw); go_simp; try with_reducible rfl)⟩) (by assumption) ?_
            (try simp only [Act.put, List.setIfInBounds_toArray, List.set_cons_zero, List.set_cons_succ])
            refine wpAnyH_ready (rs := [20]) (by kernel_rfl) (by simp) (AllReadyH.cons (o := { dst := (some 77), op := (Go.Op.call { callee := (Go.Callee.value (Go.Operand.func 10)), args := #[(Go.Operand.tmp 75), (Go.Operand.tmp 76), (Go.Operand.const (Go.Value.slice none 0 0))], argTypes := #[24, 25, 26] }), type := 4, pos := "law.go:107", after := #[{ on := 18, ground := Go.Ground.data }, { on := 19, ground := Go.Ground.data }, { on := 17, ground := Go.Ground.chain }, { on := 17, ground := Go.Ground.guard }], guard := (some (17, false)) }) rfl (fun K hK => ?_) AllReadyH.nil)
            go_simp
            (first | (go_at_call 10; refine (HE_.out _ HUc.out [] (fun _ => True) none 0 (.inl rfl) (by simp)).mono ?_; rintro e wd ⟨rfl, hu⟩; have HUd := As.mk (Upd.trans HUc.out hu (fun _ _ h => h)); have HVd := As.mk (Upd.trans HVc.out hu (fun _ _ h => h)); clear hu) | (go_at_call 10; refine (HP_.out _ HUb.out [] (fun _ => True) none 0 (.inl rfl) (by simp)).mono ?_; rintro e wc ⟨rfl, hu⟩; rw [HR3.out]; have HUc := As.mk (Upd.trans HUb.out hu (fun _ _ h => h)); have HVc := As.mk (Upd.trans HVb.out hu (fun _ _ h => h)); clear hu) | (go_at_call 10; refine (HS_.out _ HUa.out [] (fun _ => True) none 0 (.inl rfl) (by simp)).mono ?_; rintro e wb ⟨rfl, hu⟩; rw [HR2.out]; have HUb := As.mk (Upd.trans HUa.out hu (fun _ _ h => h)); have HVb := As.mk (Upd.trans HVa.out hu (fun _ _ h => h)); clear hu) | (go_at_call 10; refine (HO_.out _ HU9.out.drew a _ Aa ca (Rp.row_pure HA.out (HPB.out.trans HU9.out.drew (fun _ _ h => h))) (by omega)).mono ?_; rintro e wa ⟨rfl, hu⟩; rw [HR1.out]; have HUa := As.mk (Upd.trans HU9.out.drew hu (fun _ _ h => h)); have HVa := As.mk (hu); clear hu))
            refine hK.out _ _ (by first | exact HS.out _ HUd.out | exact HS.out _ HUc.out | exact HS.out _ HUb.out | exact HS.out _ HUa.out | exact HS.out _ HU9.out.drew) (fun hHeld => ?_)
            clear hK K
            (try simp only [Act.put, List.setIfInBounds_toArray, List.set_cons_zero, List.set_cons_succ])
            refine wpAnyH_ready (rs := [23]) (by kernel_rfl) (by simp) (AllReadyH.cons (o := { dst := (some 80), op := (Go.Op.call { callee := (Go.Callee.value (Go.Operand.func 10)), args := #[(Go.Operand.tmp 78), (Go.Operand.tmp 79), (Go.Operand.const (Go.Value.slice none 0 0))], argTypes := #[24, 25, 26] }), type := 4, pos := "law.go:107", after := #[{ on := 21, ground := Go.Ground.data }, { on := 22, ground := Go.Ground.data }, { on := 20, ground := Go.Ground.chain }, { on := 17, ground := Go.Ground.guard }], guard := (some (17, false)) }) rfl (fun K hK => ?_) AllReadyH.nil)
            go_simp
            (first | (go_at_call 10; refine (HE_.out _ HUc.out [] (fun _ => True) none 0 (.inl rfl) (by simp)).mono ?_; rintro e wd ⟨rfl, hu⟩; have HUd := As.mk (Upd.trans HUc.out hu (fun _ _ h => h)); have HVd := As.mk (Upd.trans HVc.out hu (fun _ _ h => h)); clear hu) | (go_at_call 10; refine (HP_.out _ HUb.out [] (fun _ => True) none 0 (.inl rfl) (by simp)).mono ?_; rintro e wc ⟨rfl, hu⟩; rw [HR3.out]; have HUc := As.mk (Upd.trans HUb.out hu (fun _ _ h => h)); have HVc := As.mk (Upd.trans HVb.out hu (fun _ _ h => h)); clear hu) | (go_at_call 10; refine (HS_.out _ HUa.out [] (fun _ => True) none 0 (.inl rfl) (by simp)).mono ?_; rintro e wb ⟨rfl, hu⟩; rw [HR2.out]; have HUb := As.mk (Upd.trans HUa.out hu (fun _ _ h => h)); have HVb := As.mk (Upd.trans HVa.out hu (fun _ _ h => h)); clear hu) | (go_at_call 10; refine (HO_.out _ HU9.out.drew a _ Aa ca (Rp.row_pure HA.out (HPB.out.trans HU9.out.drew (fun _ _ h => h))) (by omega)).mono ?_; rintro e wa ⟨rfl, hu⟩; rw [HR1.out]; have HUa := As.mk (Upd.trans HU9.out.drew hu (fun _ _ h => h)); have HVa := As.mk (hu); clear hu))
            refine hK.out _ _ (by first | exact HS.out _ HUd.out | exact HS.out _ HUc.out | exact HS.out _ HUb.out | exact HS.out _ HUa.out | exact HS.out _ HU9.out.drew) (fun hHeld => ?_)
            clear hK K
            (try simp only [Act.put, List.setIfInBounds_toArray, List.set_cons_zero, List.set_cons_succ])
            refine wpAnyH_take (i := 24) (oi := { dst := (some 81), op := (Go.Op.binOp Go.BinOp.neq 4 (Go.Operand.tmp 77) (Go.Operand.tmp 80) 4), type := 4, pos := "law.go:107", after := #[{ on := 20, ground := Go.Ground.data }, { on := 23, ground := Go.Ground.data }, { on := 17, ground := Go.Ground.guard }], guard := (some (17, false)) }) (v := ?_) rfl (by kernel_rfl) (by kernel_rfl) (by kernel_rfl) (fun _ _ _ h => h) (Or.inl ⟨by rfl, (by intro w hSw; (try dsimp only at hSw); go_simp; try with_reducible rfl)⟩) (by assumption) ?_
            (try simp only [Act.put, List.setIfInBounds_toArray, List.set_cons_zero, List.set_cons_succ])
            refine wpAnyH_take (i := 25) (oi := { dst := (some 82), op := (Go.Op.pick (Go.Operand.tmp 74) (Go.Operand.const (Go.Value.bool true)) (Go.Operand.tmp 81)), type := 4, pos := "law.go:107", after := #[{ on := 17, ground := Go.Ground.data }, { on := 24, ground := Go.Ground.data }], guard := none }) (v := ?_) rfl (by kernel_rfl) (by kernel_rfl) (by kernel_rfl) (fun _ _ _ h => h) (Or.inl ⟨by rfl, (by intro w hSw; (try dsimp only at hSw); go_simp; try with_reducible rfl)⟩) (by assumption) ?_
            (try simp only [Act.put, List.setIfInBounds_toArray, List.set_cons_zero, List.set_cons_succ])
            refine wpAnyH_done (by kernel_rfl) ?_ _
            obtain ⟨g0, g1, g2, g3, g4, g5, g6, g7, g8, g9, g10, g11⟩ := HS.out _ HUd.out
            go_wp2_with (go_at_call 10; refine (HS_.out _ HUd.out a _ Aa ca (Rp.row_pure HA.out (HPB.out.trans HUd.out (fun _ _ h => h))) (by omega)).mono ?_; rintro e z1 ⟨rfl, hu⟩; rw [HQ4.out.1]; have HZ1 := As.mk (Upd.trans HUd.out hu (fun _ _ h => h)); have HY1 := As.mk (Upd.trans HVd.out hu (fun _ _ h => h)); clear hu; apply As.out)
            refine ⟨?_⟩
            clear g0 g1 g2 g3 g4 g5 g6 g7 g8 g9 g10 g11
            obtain ⟨g0, g1, g2, g3, g4, g5, g6, g7, g8, g9, g10, g11⟩ := HS.out _ HZ1.out
            go_wp2_with (go_at_call 10; refine (HP_.out _ HZ1.out a _ Aa ca (Rp.row_pure HA.out (HPB.out.trans HZ1.out (fun _ _ h => h))) (by omega)).mono ?_; rintro e z2 ⟨rfl, hu⟩; rw [HQ4.out.2]; have HZ2 := As.mk (Upd.trans HZ1.out hu (fun _ _ h => h)); have HY2 := As.mk (Upd.trans HY1.out hu (fun _ _ h => h)); clear hu; apply As.out)
            refine ⟨?_⟩
            clear g0 g1 g2 g3 g4 g5 g6 g7 g8 g9 g10 g11
            go_wp2_with (go_at_call 9; refine awake_calls.mono ?_; rintro e z9 ⟨rfl, hu9⟩)
            go_ret
            exact ⟨rfl, (HPB.out.trans HZ2.out (fun _ _ h => h)).trans hu9 (fun _ _ h => h)⟩
          · have HOA := As.mk hoa
            have HOB := As.mk hob
            have R1 := P1.out; have R3 := P3.out; have R2 := P2.out
            rw [hoa] at R1
            rw [Bool.true_or] at R1
            have HR1 := As.mk R1; have HR2 := As.mk R2; have HR3 := As.mk R3; clear R1 R2 R3
            clear hoa
            obtain ⟨f0, f1, f2, f3, f4, f5, f6, f7, f8, f9, f10, f11⟩ := HS.out _ HU2.out
            go_wp2_with (go_at_call 10; refine (HE_.out _ HU2.out b _ Ab cb (Rp.row_pure HB.out (HPB.out.trans HU2.out (fun _ _ h => h))) (by omega)).mono ?_; rintro e w3 ⟨rfl, hu⟩; rw [hob]; have HU3 := As.mk (Upd.trans HU2.out hu (fun _ _ h => h)); clear hu; apply As.out)
            refine ⟨?_⟩
            clear f0 f1 f2 f3 f4 f5 f6 f7 f8 f9 f10 f11
            clear hob
            have hzX := HU3.out.size
            go_wp2_with (at_builtin; refine Rp.append_row intR (c := ca) (Rp.own_empty (F := fun _ => True) intR (heap_alloc_new w3 _) trivial) (Rp.row'_of (Rp.row_pure HA.out (HPB.out.trans (HU3.out.alloc _) (fun _ _ h => h))) (fun _ _ h => h)) (Fz := fun _ => False) (fun _ h => h.elim) rfl _ _ 26 (.int .i64 0) 8 rfl Try.underlying26 int_info rfl (by decide) (by decide) rfl rfl (by simp; omega) ?_; intro v1 w7 ho1 hu1 hat1; have HO1 := As.mk (int_own_fp ho1); have HU7 := As.mk (Upd.trans (HU3.out.alloc _) hu1 (fun q hq h => by simp [Value.ownBlock] at h; omega)); have HAT := As.mk hat1; clear ho1 hu1 hat1; apply As.out)
            refine ⟨?_⟩
            have hv1 : ∀ q, v1.ownBlock = some q → Wb.heap.size ≤ q := by
              intro q hq
              rcases HAT.out with h | ⟨b1, h, hb1⟩
              · rw [h] at hq; simp [Value.ownBlock] at hq; omega
              · rw [h] at hq; simp at hq hb1; omega
            have HV1 := As.mk hv1; clear hv1 HAT
            go_wp2_with (at_builtin; refine Rp.append_row intR (c := cb) HO1.out (Rp.row'_of (Rp.row_pure HB.out (HPB.out.trans HU7.out (fun _ _ h => h))) (fun _ _ h => h)) (Fz := fun _ => False) (fun _ h => h.elim) rfl _ _ 26 (.int .i64 0) 8 rfl Try.underlying26 int_info rfl (by decide) (by decide) rfl rfl (by simp; omega) ?_; intro v2 w9 ho2 hu2 hat2; have HO2 := As.mk (int_own_fp ho2); have HU9 := As.mk (Upd.trans HU7.out hu2 (fun q hq h => by have := HV1.out q h; omega)); clear ho2 hu2 hat2; apply As.out)
            refine ⟨?_⟩
            obtain ⟨ab, hab⟩ : ∃ ab, ab = a ++ b := ⟨_, rfl⟩
            have ho3 := HO2.out
            rw [List.nil_append, ← hab] at ho3
            obtain ⟨A2, c2, rfl, _, hr3⟩ := Rp.own_slice ho3
            have HR9 := As.mk hr3
            have habl : ab.length ≤ 1048576 * 4 := by rw [hab, List.length_append]; omega
            have hq5 := P5.out HOA.out HOB.out; rw [← hab] at hq5
            have HQ5 := As.mk hq5; clear hq5
            have HQ4 := As.mk (P4.out HOA.out)
            clear hab ho3 hr3
            go_wp2
            refine wp_region_held_drew (S := (fun v => v.cell? ⟨w.heap.size, 0, none⟩ = some (.int .i64 k0) ∧ v.cell? ⟨w.heap.size, 1, none⟩ = some (.string nm) ∧ v.cell? ⟨w.heap.size, 2, none⟩ = some (.slice A l.length c) ∧ v.cell? ⟨n + 1, 0, none⟩ = some (.int .i64 6) ∧ v.cell? ⟨n + 1, 1, none⟩ = some (.string noName) ∧ v.cell? ⟨n + 1, 2, none⟩ = some (.slice (some ⟨n, 0, none⟩) 1 1) ∧ v.cell? ⟨n + 1 + 1 + 1, 0, none⟩ = some (.int .i64 4) ∧ v.cell? ⟨n + 1 + 1 + 1, 1, none⟩ = some (.string noName) ∧ v.cell? ⟨n + 1 + 1 + 1, 2, none⟩ = some (.slice (some ⟨n + 1 + 1, 0, none⟩) 1 1) ∧ v.cell? ⟨n + 1 + 1 + 1 + 1 + 1, 0, none⟩ = some (.int .i64 5) ∧ v.cell? ⟨n + 1 + 1 + 1 + 1 + 1, 1, none⟩ = some (.string noName) ∧ v.cell? ⟨n + 1 + 1 + 1 + 1 + 1, 2, none⟩ = some (.slice (some ⟨n + 1 + 1 + 1 + 1, 0, none⟩) 1 1))) (by kernel_rfl) ?_ (fun hHeld => ?_)
            · first | exact HS.out _ HUd.out | exact HS.out _ HUc.out | exact HS.out _ HUb.out | exact HS.out _ HUa.out | exact HS.out _ HU9.out.drew
            refine wpAnyH_take (i := 0) (oi := { dst := (some 57), op := (Go.Op.load 24 (Go.Operand.tmp 9)), type := 24, pos := "law.go:107", after := #[], guard := none }) (v := ?_) rfl (by kernel_rfl) (by kernel_rfl) (by kernel_rfl) (fun _ _ _ h => h) (Or.inl ⟨by rfl, (by intro w hSw; (try dsimp only at hSw); go_simp; try with_reducible rfl)⟩) (by assumption) ?_
            (try simp only [Act.put, List.setIfInBounds_toArray, List.set_cons_zero, List.set_cons_succ])
            refine wpAnyH_take (i := 1) (oi := { dst := (some 58), op := (Go.Op.move (Go.Operand.tmp 1)), type := 25, pos := "law.go:107", after := #[], guard := none }) (v := ?_) rfl (by kernel_rfl) (by kernel_rfl) (by kernel_rfl) (fun _ _ _ h => h) (Or.inl ⟨by rfl, (by intro w hSw; (try dsimp only at hSw); go_simp; try with_reducible rfl)⟩) (by assumption) ?_
            (try simp only [Act.put, List.setIfInBounds_toArray, List.set_cons_zero, List.set_cons_succ])
            refine wpAnyH_take (i := 2) (oi := { dst := (some 59), op := (Go.Op.move (Go.Operand.tmp 2)), type := 26, pos := "law.go:107", after := #[], guard := none }) (v := ?_) rfl (by kernel_rfl) (by kernel_rfl) (by kernel_rfl) (fun _ _ _ h => h) (Or.inl ⟨by rfl, (by intro w hSw; (try dsimp only at hSw); go_simp; try with_reducible rfl)⟩) (by assumption) ?_
            (try simp only [Act.put, List.setIfInBounds_toArray, List.set_cons_zero, List.set_cons_succ])
            refine wpAnyH_take (i := 4) (oi := { dst := (some 61), op := (Go.Op.move (Go.Operand.tmp 12)), type := 4, pos := "law.go:107", after := #[], guard := none }) (v := ?_) rfl (by kernel_rfl) (by kernel_rfl) (by kernel_rfl) (fun _ _ _ h => h) (Or.inl ⟨by rfl, (by intro w hSw; (try dsimp only at hSw); go_simp; try with_reducible rfl)⟩) (by assumption) ?_
            (try simp only [Act.put, List.setIfInBounds_toArray, List.set_cons_zero, List.set_cons_succ])
            refine wpAnyH_ready (rs := [3]) (by kernel_rfl) (by simp) (AllReadyH.cons (o := { dst := (some 60), op := (Go.Op.call { callee := (Go.Callee.value (Go.Operand.func 10)), args := #[(Go.Operand.tmp 57), (Go.Operand.tmp 58), (Go.Operand.tmp 59)], argTypes := #[24, 25, 26] }), type := 4, pos := "law.go:107", after := #[{ on := 0, ground := Go.Ground.data }, { on := 1, ground := Go.Ground.data }, { on := 2, ground := Go.Ground.data }], guard := none }) rfl (fun K hK => ?_) AllReadyH.nil)
            go_simp
            (first | (go_at_call 10; refine (HE_.out _ HUc.out [] (fun _ => True) none 0 (.inl rfl) (by simp)).mono ?_; rintro e wd ⟨rfl, hu⟩; have HUd := As.mk (Upd.trans HUc.out hu (fun _ _ h => h)); have HVd := As.mk (Upd.trans HVc.out hu (fun _ _ h => h)); clear hu) | (go_at_call 10; refine (HP_.out _ HUb.out [] (fun _ => True) none 0 (.inl rfl) (by simp)).mono ?_; rintro e wc ⟨rfl, hu⟩; rw [HR3.out]; have HUc := As.mk (Upd.trans HUb.out hu (fun _ _ h => h)); have HVc := As.mk (Upd.trans HVb.out hu (fun _ _ h => h)); clear hu) | (go_at_call 10; refine (HS_.out _ HUa.out [] (fun _ => True) none 0 (.inl rfl) (by simp)).mono ?_; rintro e wb ⟨rfl, hu⟩; rw [HR2.out]; have HUb := As.mk (Upd.trans HUa.out hu (fun _ _ h => h)); have HVb := As.mk (Upd.trans HVa.out hu (fun _ _ h => h)); clear hu) | (go_at_call 10; refine (HO_.out _ HU9.out.drew a _ Aa ca (Rp.row_pure HA.out (HPB.out.trans HU9.out.drew (fun _ _ h => h))) (by omega)).mono ?_; rintro e wa ⟨rfl, hu⟩; rw [HR1.out]; have HUa := As.mk (Upd.trans HU9.out.drew hu (fun _ _ h => h)); have HVa := As.mk (hu); clear hu))
            refine hK.out _ _ (by first | exact HS.out _ HUd.out | exact HS.out _ HUc.out | exact HS.out _ HUb.out | exact HS.out _ HUa.out | exact HS.out _ HU9.out.drew) (fun hHeld => ?_)
            clear hK K
            (try simp only [Act.put, List.setIfInBounds_toArray, List.set_cons_zero, List.set_cons_succ])
            refine wpAnyH_take (i := 5) (oi := { dst := (some 62), op := (Go.Op.move (Go.Operand.tmp 61)), type := 4, pos := "law.go:107", after := #[{ on := 4, ground := Go.Ground.data }, { on := 3, ground := Go.Ground.chain }], guard := none }) (v := ?_) rfl (by kernel_rfl) (by kernel_rfl) (by kernel_rfl) (fun _ _ _ h => h) (Or.inl ⟨by rfl, (by intro w hSw; (try dsimp only at hSw); go_simp; try with_reducible rfl)⟩) (by assumption) ?_
            (try simp only [Act.put, List.setIfInBounds_toArray, List.set_cons_zero, List.set_cons_succ])
            refine wpAnyH_take (i := 6) (oi := { dst := (some 63), op := (Go.Op.move (Go.Operand.tmp 2)), type := 26, pos := "law.go:107", after := #[{ on := 5, ground := Go.Ground.guard }], guard := (some (5, false)) }) (v := undef) rfl (by kernel_rfl) (by kernel_rfl) (by kernel_rfl) (fun _ _ _ h => h) (Or.inr ⟨by rfl, rfl⟩) (by assumption) ?_
            (try simp only [Act.put, List.setIfInBounds_toArray, List.set_cons_zero, List.set_cons_succ])
            refine wpAnyH_take (i := 7) (oi := { dst := (some 64), op := (Go.Op.call { callee := (Go.Callee.builtin Go.Builtin.len), args := #[(Go.Operand.tmp 63)], argTypes := #[26] }), type := 3, pos := "law.go:107", after := #[{ on := 6, ground := Go.Ground.data }, { on := 5, ground := Go.Ground.guard }], guard := (some (5, false)) }) (v := undef) rfl (by kernel_rfl) (by kernel_rfl) (by kernel_rfl) (fun _ _ _ h => h) (Or.inr ⟨by rfl, rfl⟩) (by assumption) ?_
            (try simp only [Act.put, List.setIfInBounds_toArray, List.set_cons_zero, List.set_cons_succ])
            refine wpAnyH_take (i := 8) (oi := { dst := (some 65), op := (Go.Op.binOp Go.BinOp.eql 3 (Go.Operand.tmp 64) (Go.Operand.const (Go.Value.int Go.IntKind.i64 0)) 3), type := 4, pos := "law.go:107", after := #[{ on := 7, ground := Go.Ground.data }, { on := 5, ground := Go.Ground.guard }], guard := (some (5, false)) }) (v := undef) rfl (by kernel_rfl) (by kernel_rfl) (by kernel_rfl) (fun _ _ _ h => h) (Or.inr ⟨by rfl, rfl⟩) (by assumption) ?_
            (try simp only [Act.put, List.setIfInBounds_toArray, List.set_cons_zero, List.set_cons_succ])
            refine wpAnyH_take (i := 9) (oi := { dst := (some 66), op := (Go.Op.pick (Go.Operand.tmp 62) (Go.Operand.const (Go.Value.bool true)) (Go.Operand.tmp 65)), type := 4, pos := "law.go:107", after := #[{ on := 5, ground := Go.Ground.data }, { on := 8, ground := Go.Ground.data }], guard := none }) (v := ?_) rfl (by kernel_rfl) (by kernel_rfl) (by kernel_rfl) (fun _ _ _ h => h) (Or.inl ⟨by rfl, (by intro w hSw; (try dsimp only at hSw); go_simp; try with_reducible rfl)⟩) (by assumption) ?_
            (try simp only [Act.put, List.setIfInBounds_toArray, List.set_cons_zero, List.set_cons_succ])
            refine wpAnyH_take (i := 10) (oi := { dst := (some 67), op := (Go.Op.binOp Go.BinOp.neq 4 (Go.Operand.tmp 60) (Go.Operand.tmp 66) 4), type := 4, pos := "law.go:107", after := #[{ on := 3, ground := Go.Ground.data }, { on := 9, ground := Go.Ground.data }], guard := none }) (v := ?_) rfl (by kernel_rfl) (by kernel_rfl) (by kernel_rfl) (fun _ _ _ h => h) (Or.inl ⟨by rfl, (by intro w hSw; (try dsimp only at hSw); go_simp; try with_reducible rfl)⟩) (by assumption) ?_
            (try simp only [Act.put, List.setIfInBounds_toArray, List.set_cons_zero, List.set_cons_succ])
            refine wpAnyH_take (i := 11) (oi := { dst := (some 68), op := (Go.Op.move (Go.Operand.tmp 67)), type := 4, pos := "law.go:107", after := #[{ on := 10, ground := Go.Ground.data }, { on := 5, ground := Go.Ground.chain }], guard := none }) (v := ?_) rfl (by kernel_rfl) (by kernel_rfl) (by kernel_rfl) (fun _ _ _ h => h) (Or.inl ⟨by rfl, (by intro w hSw; (try dsimp only at hSw); go_simp; try with_reducible rfl)⟩) (by assumption) ?_
            (try simp only [Act.put, List.setIfInBounds_toArray, List.set_cons_zero, List.set_cons_succ])
            refine wpAnyH_take (i := 12) (oi := { dst := (some 69), op := (Go.Op.load 24 (Go.Operand.tmp 10)), type := 24, pos := "law.go:107", after := #[{ on := 11, ground := Go.Ground.guard }], guard := (some (11, false)) }) (v := ?_) rfl (by kernel_rfl) (by kernel_rfl) (by kernel_rfl) (fun _ _ _ h => h) (Or.inl ⟨by rfl, (by intro w hSw; (try dsimp only at hSw); go_simp; try with_reducible rfl)⟩) (by assumption) ?_
            (try simp only [Act.put, List.setIfInBounds_toArray, List.set_cons_zero, List.set_cons_succ])
            refine wpAnyH_take (i := 13) (oi := { dst := (some 70), op := (Go.Op.move (Go.Operand.tmp 1)), type := 25, pos := "law.go:107", after := #[{ on := 11, ground := Go.Ground.guard }], guard := (some (11, false)) }) (v := ?_) rfl (by kernel_rfl) (by kernel_rfl) (by kernel_rfl) (fun _ _ _ h => h) (Or.inl ⟨by rfl, (by intro w hSw; (try dsimp only at hSw); go_simp; try with_reducible rfl)⟩) (by assumption) ?_
            (try simp only [Act.put, List.setIfInBounds_toArray, List.set_cons_zero, List.set_cons_succ])
            refine wpAnyH_ready (rs := [14]) (by kernel_rfl) (by simp) (AllReadyH.cons (o := { dst := (some 71), op := (Go.Op.call { callee := (Go.Callee.value (Go.Operand.func 10)), args := #[(Go.Operand.tmp 69), (Go.Operand.tmp 70), (Go.Operand.const (Go.Value.slice none 0 0))], argTypes := #[24, 25, 26] }), type := 4, pos := "law.go:107", after := #[{ on := 12, ground := Go.Ground.data }, { on := 13, ground := Go.Ground.data }, { on := 11, ground := Go.Ground.chain }, { on := 11, ground := Go.Ground.guard }], guard := (some (11, false)) }) rfl (fun K hK => ?_) AllReadyH.nil)
            go_simp
            (first | (go_at_call 10; refine (HE_.out _ HUc.out [] (fun _ => True) none 0 (.inl rfl) (by simp)).mono ?_; rintro e wd ⟨rfl, hu⟩; have HUd := As.mk (Upd.trans HUc.out hu (fun _ _ h => h)); have HVd := As.mk (Upd.trans HVc.out hu (fun _ _ h => h)); clear hu) | (go_at_call 10; refine (HP_.out _ HUb.out [] (fun _ => True) none 0 (.inl rfl) (by simp)).mono ?_; rintro e wc ⟨rfl, hu⟩; rw [HR3.out]; have HUc := As.mk (Upd.trans HUb.out hu (fun _ _ h => h)); have HVc := As.mk (Upd.trans HVb.out hu (fun _ _ h => h)); clear hu) | (go_at_call 10; refine (HS_.out _ HUa.out [] (fun _ => True) none 0 (.inl rfl) (by simp)).mono ?_; rintro e wb ⟨rfl, hu⟩; rw [HR2.out]; have HUb := As.mk (Upd.trans HUa.out hu (fun _ _ h => h)); have HVb := As.mk (Upd.trans HVa.out hu (fun _ _ h => h)); clear hu) | (go_at_call 10; refine (HO_.out _ HU9.out.drew a _ Aa ca (Rp.row_pure HA.out (HPB.out.trans HU9.out.drew (fun _ _ h => h))) (by omega)).mono ?_; rintro e wa ⟨rfl, hu⟩; rw [HR1.out]; have HUa := As.mk (Upd.trans HU9.out.drew hu (fun _ _ h => h)); have HVa := As.mk (hu); clear hu))
            refine hK.out _ _ (by first | exact HS.out _ HUd.out | exact HS.out _ HUc.out | exact HS.out _ HUb.out | exact HS.out _ HUa.out | exact HS.out _ HU9.out.drew) (fun hHeld => ?_)
            clear hK K
            (try simp only [Act.put, List.setIfInBounds_toArray, List.set_cons_zero, List.set_cons_succ])
            refine wpAnyH_take (i := 15) (oi := { dst := (some 72), op := (Go.Op.unOp Go.UnOp.not 4 (Go.Operand.tmp 71)), type := 4, pos := "law.go:107", after := #[{ on := 14, ground := Go.Ground.data }, { on := 11, ground := Go.Ground.guard }], guard := (some (11, false)) }) (v := ?_) rfl (by kernel_rfl) (by kernel_rfl) (by kernel_rfl) (fun _ _ _ h => h) (Or.inl ⟨by rfl, (by intro w hSw; (try dsimp only at hSw); go_simp; try with_reducible rfl)⟩) (by assumption) ?_
            (try simp only [Act.put, List.setIfInBounds_toArray, List.set_cons_zero, List.set_cons_succ])
            refine wpAnyH_take (i := 16) (oi := { dst := (some 73), op := (Go.Op.pick (Go.Operand.tmp 68) (Go.Operand.const (Go.Value.bool true)) (Go.Operand.tmp 72)), type := 4, pos := "law.go:107", after := #[{ on := 11, ground := Go.Ground.data }, { on := 15, ground := Go.Ground.data }], guard := none }) (v := ?_) rfl (by kernel_rfl) (by kernel_rfl) (by kernel_rfl) (fun _ _ _ h => h) (Or.inl ⟨by rfl, (by intro w hSw; (try dsimp only at hSw); go_simp; try with_reducible rfl)⟩) (by assumption) ?_
            (try simp only [Act.put, List.setIfInBounds_toArray, List.set_cons_zero, List.set_cons_succ])
            refine wpAnyH_take (i := 17) (oi := { dst := (some 74), op := (Go.Op.move (Go.Operand.tmp 73)), type := 4, pos := "law.go:107", after := #[{ on := 16, ground := Go.Ground.data }, { on := 14, ground := Go.Ground.chain }], guard := none }) (v := ?_) rfl (by kernel_rfl) (by kernel_rfl) (by kernel_rfl) (fun _ _ _ h => h) (Or.inl ⟨by rfl, (by intro w hSw; (try dsimp only at hSw); go_simp; try with_reducible rfl)⟩) (by assumption) ?_
            (try simp only [Act.put, List.setIfInBounds_toArray, List.set_cons_zero, List.set_cons_succ])
            refine wpAnyH_take (i := 18) (oi := { dst := (some 75), op := (Go.Op.load 24 (Go.Operand.tmp 11)), type := 24, pos := "law.go:107", after := #[{ on := 17, ground := Go.Ground.guard }], guard := (some (17, false)) }) (v := ?_) rfl (by kernel_rfl) (by kernel_rfl) (by kernel_rfl) (fun _ _ _ h => h) (Or.inl ⟨by rfl, (by intro w hSw; (try dsimp only at hSw); go_simp; try with_reducible rfl)⟩) (by assumption) ?_
            (try simp only [Act.put, List.setIfInBounds_toArray, List.set_cons_zero, List.set_cons_succ])
            refine wpAnyH_take (i := 19) (oi := { dst := (some 76), op := (Go.Op.move (Go.Operand.tmp 1)), type := 25, pos := "law.go:107", after := #[{ on := 17, ground := Go.Ground.guard }], guard := (some (17, false)) }) (v := ?_) rfl (by kernel_rfl) (by kernel_rfl) (by kernel_rfl) (fun _ _ _ h => h) (Or.inl ⟨by rfl, (by intro w hSw; (try dsimp only at hSw); go_simp; try with_reducible rfl)⟩) (by assumption) ?_
            (try simp only [Act.put, List.setIfInBounds_toArray, List.set_cons_zero, List.set_cons_succ])
            refine wpAnyH_take (i := 21) (oi := { dst := (some 78), op := (Go.Op.load 24 (Go.Operand.tmp 4)), type := 24, pos := "law.go:107", after := #[{ on := 17, ground := Go.Ground.guard }], guard := (some (17, false)) }) (v := ?_) rfl (by kernel_rfl) (by kernel_rfl) (by kernel_rfl) (fun _ _ _ h => h) (Or.inl ⟨by rfl, (by intro w hSw; (try dsimp only at hSw); go_simp; try with_reducible rfl)⟩) (by assumption) ?_
            (try simp only [Act.put, List.setIfInBounds_toArray, List.set_cons_zero, List.set_cons_succ])
            refine wpAnyH_take (i := 22) (oi := { dst := (some 79), op := (Go.Op.move (Go.Operand.tmp 1)), type := 25, pos := "law.go:107", after := #[{ on := 17, ground := Go.Ground.guard }], guard := (some (17, false)) }) (v := ?_) rfl (by kernel_rfl) (by kernel_rfl) (by kernel_rfl) (fun _ _ _ h => h) (Or.inl ⟨by rfl, (by intro w hSw; (try dsimp only at hSw); go_simp; try with_reducible rfl)⟩) (by assumption) ?_
            (try simp only [Act.put, List.setIfInBounds_toArray, List.set_cons_zero, List.set_cons_succ])
            refine wpAnyH_ready (rs := [20]) (by kernel_rfl) (by simp) (AllReadyH.cons (o := { dst := (some 77), op := (Go.Op.call { callee := (Go.Callee.value (Go.Operand.func 10)), args := #[(Go.Operand.tmp 75), (Go.Operand.tmp 76), (Go.Operand.const (Go.Value.slice none 0 0))], argTypes := #[24, 25, 26] }), type := 4, pos := "law.go:107", after := #[{ on := 18, ground := Go.Ground.data }, { on := 19, ground := Go.Ground.data }, { on := 17, ground := Go.Ground.chain }, { on := 17, ground := Go.Ground.guard }], guard := (some (17, false)) }) rfl (fun K hK => ?_) AllReadyH.nil)
            go_simp
            (first | (go_at_call 10; refine (HE_.out _ HUc.out [] (fun _ => True) none 0 (.inl rfl) (by simp)).mono ?_; rintro e wd ⟨rfl, hu⟩; have HUd := As.mk (Upd.trans HUc.out hu (fun _ _ h => h)); have HVd := As.mk (Upd.trans HVc.out hu (fun _ _ h => h)); clear hu) | (go_at_call 10; refine (HP_.out _ HUb.out [] (fun _ => True) none 0 (.inl rfl) (by simp)).mono ?_; rintro e wc ⟨rfl, hu⟩; rw [HR3.out]; have HUc := As.mk (Upd.trans HUb.out hu (fun _ _ h => h)); have HVc := As.mk (Upd.trans HVb.out hu (fun _ _ h => h)); clear hu) | (go_at_call 10; refine (HS_.out _ HUa.out [] (fun _ => True) none 0 (.inl rfl) (by simp)).mono ?_; rintro e wb ⟨rfl, hu⟩; rw [HR2.out]; have HUb := As.mk (Upd.trans HUa.out hu (fun _ _ h => h)); have HVb := As.mk (Upd.trans HVa.out hu (fun _ _ h => h)); clear hu) | (go_at_call 10; refine (HO_.out _ HU9.out.drew a _ Aa ca (Rp.row_pure HA.out (HPB.out.trans HU9.out.drew (fun _ _ h => h))) (by omega)).mono ?_; rintro e wa ⟨rfl, hu⟩; rw [HR1.out]; have HUa := As.mk (Upd.trans HU9.out.drew hu (fun _ _ h => h)); have HVa := As.mk (hu); clear hu))
            refine hK.out _ _ (by first | exact HS.out _ HUd.out | exact HS.out _ HUc.out | exact HS.out _ HUb.out | exact HS.out _ HUa.out | exact HS.out _ HU9.out.drew) (fun hHeld => ?_)
            clear hK K
            (try simp only [Act.put, List.setIfInBounds_toArray, List.set_cons_zero, List.set_cons_succ])
            refine wpAnyH_ready (rs := [23]) (by kernel_rfl) (by simp) (AllReadyH.cons (o := { dst := (some 80), op := (Go.Op.call { callee := (Go.Callee.value (Go.Operand.func 10)), args := #[(Go.Operand.tmp 78), (Go.Operand.tmp 79), (Go.Operand.const (Go.Value.slice none 0 0))], argTypes := #[24, 25, 26] }), type := 4, pos := "law.go:107", after := #[{ on := 21, ground := Go.Ground.data }, { on := 22, ground := Go.Ground.data }, { on := 20, ground := Go.Ground.chain }, { on := 17, ground := Go.Ground.guard }], guard := (some (17, false)) }) rfl (fun K hK => ?_) AllReadyH.nil)
            go_simp
            (first | (go_at_call 10; refine (HE_.out _ HUc.out [] (fun _ => True) none 0 (.inl rfl) (by simp)).mono ?_; rintro e wd ⟨rfl, hu⟩; have HUd := As.mk (Upd.trans HUc.out hu (fun _ _ h => h)); have HVd := As.mk (Upd.trans HVc.out hu (fun _ _ h => h)); clear hu) | (go_at_call 10; refine (HP_.out _ HUb.out [] (fun _ => True) none 0 (.inl rfl) (by simp)).mono ?_; rintro e wc ⟨rfl, hu⟩; rw [HR3.out]; have HUc := As.mk (Upd.trans HUb.out hu (fun _ _ h => h)); have HVc := As.mk (Upd.trans HVb.out hu (fun _ _ h => h)); clear hu) | (go_at_call 10; refine (HS_.out _ HUa.out [] (fun _ => True) none 0 (.inl rfl) (by simp)).mono ?_; rintro e wb ⟨rfl, hu⟩; rw [HR2.out]; have HUb := As.mk (Upd.trans HUa.out hu (fun _ _ h => h)); have HVb := As.mk (Upd.trans HVa.out hu (fun _ _ h => h)); clear hu) | (go_at_call 10; refine (HO_.out _ HU9.out.drew a _ Aa ca (Rp.row_pure HA.out (HPB.out.trans HU9.out.drew (fun _ _ h => h))) (by omega)).mono ?_; rintro e wa ⟨rfl, hu⟩; rw [HR1.out]; have HUa := As.mk (Upd.trans HU9.out.drew hu (fun _ _ h => h)); have HVa := As.mk (hu); clear hu))
            refine hK.out _ _ (by first | exact HS.out _ HUd.out | exact HS.out _ HUc.out | exact HS.out _ HUb.out | exact HS.out _ HUa.out | exact HS.out _ HU9.out.drew) (fun hHeld => ?_)
            clear hK K
            (try simp only [Act.put, List.setIfInBounds_toArray, List.set_cons_zero, List.set_cons_succ])
            refine wpAnyH_take (i := 24) (oi := { dst := (some 81), op := (Go.Op.binOp Go.BinOp.neq 4 (Go.Operand.tmp 77) (Go.Operand.tmp 80) 4), type := 4, pos := "law.go:107", after := #[{ on := 20, ground := Go.Ground.data }, { on := 23, ground := Go.Ground.data }, { on := 17, ground := Go.Ground.guard }], guard := (some (17, false)) }) (v := ?_) rfl (by kernel_rfl) (by kernel_rfl) (by kernel_rfl) (fun _ _ _ h => h) (Or.inl ⟨by rfl, (by intro w hSw; (try dsimp only at hSw); go_simp; try with_reducible rfl)⟩) (by assumption) ?_
            (try simp only [Act.put, List.setIfInBounds_toArray, List.set_cons_zero, List.set_cons_succ])
            refine wpAnyH_take (i := 25) (oi := { dst := (some 82), op := (Go.Op.pick (Go.Operand.tmp 74) (Go.Operand.const (Go.Value.bool true)) (Go.Operand.tmp 81)), type := 4, pos := "law.go:107", after := #[{ on := 17, ground := Go.Ground.data }, { on := 24, ground := Go.Ground.data }], guard := none }) (v := ?_) rfl (by kernel_rfl) (by kernel_rfl) (by kernel_rfl) (fun _ _ _ h => h) (Or.inl ⟨by rfl, (by intro w hSw; (try dsimp only at hSw); go_simp; try with_reducible rfl)⟩) (by assumption) ?_
            (try simp only [Act.put, List.setIfInBounds_toArray, List.set_cons_zero, List.set_cons_succ])
            refine wpAnyH_done (by kernel_rfl) ?_ _
            obtain ⟨g0, g1, g2, g3, g4, g5, g6, g7, g8, g9, g10, g11⟩ := HS.out _ HUd.out
            go_wp2_with (go_at_call 10; refine (HS_.out _ HUd.out ab _ A2 c2 (Rp.row_pure (Rp.row_pure HR9.out ((Upd.refl (fun _ => False) _).drew)) HVd.out) habl).mono ?_; rintro e z1 ⟨rfl, hu⟩; rw [HQ5.out.1]; have HZ1 := As.mk (Upd.trans HUd.out hu (fun _ _ h => h)); have HY1 := As.mk (Upd.trans HVd.out hu (fun _ _ h => h)); clear hu; apply As.out)
            refine ⟨?_⟩
            clear g0 g1 g2 g3 g4 g5 g6 g7 g8 g9 g10 g11
            obtain ⟨g0, g1, g2, g3, g4, g5, g6, g7, g8, g9, g10, g11⟩ := HS.out _ HZ1.out
            go_wp2_with (go_at_call 10; refine (HP_.out _ HZ1.out ab _ A2 c2 (Rp.row_pure (Rp.row_pure HR9.out ((Upd.refl (fun _ => False) _).drew)) HY1.out) habl).mono ?_; rintro e z2 ⟨rfl, hu⟩; rw [HQ5.out.2]; have HZ2 := As.mk (Upd.trans HZ1.out hu (fun _ _ h => h)); have HY2 := As.mk (Upd.trans HY1.out hu (fun _ _ h => h)); clear hu; apply As.out)
            refine ⟨?_⟩
            clear g0 g1 g2 g3 g4 g5 g6 g7 g8 g9 g10 g11
            obtain ⟨g0, g1, g2, g3, g4, g5, g6, g7, g8, g9, g10, g11⟩ := HS.out _ HZ2.out
            go_wp2_with (go_at_call 10; refine (HS_.out _ HZ2.out a _ Aa ca (Rp.row_pure HA.out (HPB.out.trans HZ2.out (fun _ _ h => h))) (by omega)).mono ?_; rintro e z3 ⟨rfl, hu⟩; rw [HQ4.out.1]; have HZ3 := As.mk (Upd.trans HZ2.out hu (fun _ _ h => h)); have HY3 := As.mk (Upd.trans HY2.out hu (fun _ _ h => h)); clear hu; apply As.out)
            refine ⟨?_⟩
            clear g0 g1 g2 g3 g4 g5 g6 g7 g8 g9 g10 g11
            obtain ⟨g0, g1, g2, g3, g4, g5, g6, g7, g8, g9, g10, g11⟩ := HS.out _ HZ3.out
            go_wp2_with (go_at_call 10; refine (HP_.out _ HZ3.out a _ Aa ca (Rp.row_pure HA.out (HPB.out.trans HZ3.out (fun _ _ h => h))) (by omega)).mono ?_; rintro e z4 ⟨rfl, hu⟩; rw [HQ4.out.2]; have HZ4 := As.mk (Upd.trans HZ3.out hu (fun _ _ h => h)); have HY4 := As.mk (Upd.trans HY3.out hu (fun _ _ h => h)); clear hu; apply As.out)
            refine ⟨?_⟩
            clear g0 g1 g2 g3 g4 g5 g6 g7 g8 g9 g10 g11
            go_wp2_with (go_at_call 9; refine awake_calls.mono ?_; rintro e z9 ⟨rfl, hu9⟩)
            go_ret
            exact ⟨rfl, (HPB.out.trans HZ4.out (fun _ _ h => h)).trans hu9 (fun _ _ h => h)⟩
      · have e3 : (regCheck (.mk 4 noName [.mk k0 nm l]) g != 0) = true := by simp [hck]
        generalize regCheck (.mk 4 noName [.mk k0 nm l]) g = v at *
        clear hck
        go_enter Try.func3, Try.ntmps3
        go_wp2_with (first | (go_at_call 8; refine HCK.out.mono ?_; rintro e w1 ⟨rfl, hu⟩; have HPP := As.mk (HP1.out.trans hu (fun _ _ h => h)); clear hu) | (go_at_call 9; refine awake_calls.mono ?_; rintro e w3 ⟨rfl, hu3⟩))
        go_ret
        exact ⟨rfl, HPP.out.trans hu3 (fun _ _ h => h)⟩
end Go.Proofs.Ytchgeaklaeoplaa
