/- reg.made: the machine of a language, to be read. -/
import Derived.Test.YtchgeaklaeoplaaBuild5
namespace Go.Proofs.Ytchgeaklaeoplaa
open Go.RowKit
set_option linter.unusedVariables false
set_option linter.unusedSimpArgs false

abbrev AnyB : Nat → Prop := fun _ => True
/-- A machine that is read; all of it lies below N. -/
def Mac (w : World) (N mb : Nat) (ts fs : List (List Int)) (p : Part) : Prop :=
  mb < N ∧ N ≤ w.heap.size ∧ ∃ At ct Ag cg Af cf Al cl, w.heap[mb]? = some (.cells #[.slice At ts.length ct, .slice Ag fs.length cg, .bool p.none, .slice Af p.first.length cf, .slice Al p.last.length cl] 69 (0, 0)) ∧
    intR.slice.row w (fun k => k < N) At ts ∧ intR.slice.row w (fun k => k < N) Ag fs ∧ intR.row w (fun k => k < N) Af p.first ∧ intR.row w (fun k => k < N) Al p.last
theorem Mac.upd {w w1 : World} {S : Nat → Prop} {N mb : Nat} {ts fs : List (List Int)} {p : Part} (h : Mac w N mb ts fs p) (hu : Upd S w w1) (hS : ∀ k, S k → N ≤ k) : Mac w1 N mb ts fs p := by
  obtain ⟨hm, hN, At, ct, Ag, cg, Af, cf, Al, cl, hb, h1, h2, h3, h4⟩ := h
  have hk : ∀ k, k < w.heap.size → k < N → ¬ S k := fun k _ hk h => by have := hS k h; omega
  exact ⟨hm, Nat.le_trans hN hu.size, At, ct, Ag, cg, Af, cf, Al, cl, (hu.block _ (Array.getElem?_eq_some_iff.1 hb).1 (fun h => by have := hS _ h; omega)).trans hb, Rp.row_upd h1 hu hk, Rp.row_upd h2 hu hk, Rp.row_upd h3 hu hk, Rp.row_upd h4 hu hk⟩
theorem Mac.pure {w w1 : World} {N mb : Nat} {ts fs : List (List Int)} {p : Part} (h : Mac w N mb ts fs p) (hu : Pure w w1) : Mac w1 N mb ts fs p := h.upd hu (fun _ h => h.elim)

theorem Foll.own' {w : World} {M : Nat → Prop} {v : Value} {fs : List (List Int)} {vs : List Value} (h : Foll w M v fs vs) : intR.slice.own 26 w AnyB v fs := by
  have hl : vs.length = fs.length := by simpa using h.own.1
  refine ⟨vs, h.own, fun _ _ => trivial, by simpa [Rp.slice] using hl, fun j x hx => ?_⟩
  have hj : j < vs.length := by rw [hl]; exact (List.getElem?_eq_some_iff.1 hx).1
  obtain ⟨ho, _⟩ := h.each j vs[j] x (List.getElem?_eq_getElem hj) hx
  obtain ⟨A, c, he, hlc, hr⟩ := Rp.own_slice ho
  have e1 : (vs.drop (j * intR.slice.sz)).take intR.slice.sz = [vs[j]] := by
    show (vs.drop (j * 1)).take 1 = _
    rw [Nat.mul_one, List.drop_eq_getElem_cons hj]
    rfl
  rw [e1, he]
  refine ⟨A, c, rfl, hlc, Rp.row_fp hr (fun k hk => ⟨trivial, ?_⟩)⟩
  intro hk'
  obtain ⟨inner, h7, _⟩ := ho
  exact own_ne h7 h.own (by decide) k hk hk'.symm

theorem Mach.mac {w : World} {B : Nat} {M : Nat → Prop} {mb : Nat} {ts fs : List (List Int)} {p : Part} {Af Al : Option Addr} {cf cl : Nat} {tv fv : Value} {vs : List Value} (h : Mach w B M mb ts fs (.bool p.none) (.slice Af p.first.length cf) (.slice Al p.last.length cl) tv fv vs) {F1 F2 : Nat → Prop} (hf : intR.row w F1 Af p.first) (hl : intR.row w F2 Al p.last) : Mac w w.heap.size mb ts fs p := by
  obtain ⟨At, ct, rfl, _, ht⟩ := Rp.own_slice h.types
  obtain ⟨Ag, cg, rfl, _, hg⟩ := Rp.own_slice h.foll.own'
  exact ⟨(h.low mb h.mbM).2, Nat.le_refl _, At, ct, Ag, cg, Af, cf, Al, cl, h.blk, Rp.row_move (fun _ _ hl => ⟨hl, hl, rfl⟩) ht, Rp.row_move (fun _ _ hl => ⟨hl, hl, rfl⟩) hg, Rp.row_move (fun _ _ hl => ⟨hl, hl, rfl⟩) hf, Rp.row_move (fun _ _ hl => ⟨hl, hl, rfl⟩) hl⟩

/-- What begins is laid into the machine. -/
theorem Mach.begin {w : World} {B : Nat} {M : Nat → Prop} {mb : Nat} {ts fs : List (List Int)} {b0 b1 b2 tv fv : Value} {vs : List Value} (h : Mach w B M mb ts fs b0 b1 b2 tv fv vs) (c0 c1 c2 : Value) :
    Mach (((w.setCell ⟨mb, 2, none⟩ c0).setCell ⟨mb, 3, none⟩ c1).setCell ⟨mb, 4, none⟩ c2) B M mb ts fs c0 c1 c2 tv fv vs ∧ Upd (fun k => k = mb) w (((w.setCell ⟨mb, 2, none⟩ c0).setCell ⟨mb, 3, none⟩ c1).setCell ⟨mb, 4, none⟩ c2) := by
  have hu : Upd (fun k => k = mb) w (((w.setCell ⟨mb, 2, none⟩ c0).setCell ⟨mb, 3, none⟩ c1).setCell ⟨mb, 4, none⟩ c2) :=
    (((Upd.refl (fun k => k = mb) w).setCell (p := ⟨mb, 2, none⟩) (fun _ => rfl) _).setCell (p := ⟨mb, 3, none⟩) (fun _ => rfl) _).setCell (p := ⟨mb, 4, none⟩) (fun _ => rfl) _
  obtain ⟨ti, hto, _⟩ := h.types
  refine ⟨⟨by simp [World.setCell, Array.getElem?_modify, h.blk], h.mbM, fun k hk => ⟨(h.low k hk).1, by simpa [World.setCell] using (h.low k hk).2⟩, Rp.own_upd h.types hu (fun k _ hk he => ?_), h.typesM, h.foll.upd2 hu ?_ ?_ (fun _ h => h), h.apart⟩, hu⟩
  · subst he
    rcases hk with hk | hk
    · have := (h.low k h.mbM).1; omega
    · exact own_ne_block hto h.blk (by decide) hk
  · rintro k hk rfl
    exact own_ne_block h.foll.own h.blk (by decide) hk
  · rintro u hu' k hk rfl
    obtain ⟨n, inner, h5, _⟩ := h.foll.int hu'
    exact own_ne_block h5 h.blk (by decide) hk

theorem exprCheck_zero {e : Ex} (h : exprCheck e = 0) : e.cnt ≤ 200 ∧ e.okB 0 = true := by
  unfold exprCheck at h
  split at h
  · simp at h
  · split at h
    · simp at h
    · rename_i h1 h2
      exact ⟨by omega, by simpa using h2⟩
theorem regCheck_zero {e : Ex} {g : List Grp} (h : regCheck e g = 0) : exprCheck e = 0 ∧ longB g = false ∧ e.namedB g = true := by
  unfold regCheck at h
  split at h
  · rename_i h1; exact absurd h h1
  · rename_i h1
    split at h
    · simp at h
    · split at h
      · simp at h
      · rename_i h2 h3
        exact ⟨by simpa using h1, by simpa using h2, by simpa using h3⟩

set_option maxRecDepth 100000 in
set_option maxHeartbeats 4000000 in
theorem made_none {F G : Nat → Prop} {A B : Option Addr} {c d : Nat} {e : Ex} {g : List Grp} {w : World} (hr : exR.row w F A e.l) (hg : grpR.row w G B g) (hb : e.wt ≤ 1048576 * 4) (hgl : g.length ≤ 1048576) (hgt : ∀ x ∈ g, x.types.length ≤ 1048576) (h : regCheck e g ≠ 0) :
    Calls Try.prog 21 #[e.val A c, .slice B g.length d] w fun r w' => r = .returned (.pointer none) ∧ Pure w w' := by
  have e0 : (regCheck e g != 0) = true := by simp [h]
  have HC := As.mk (fun (W : World) (hu : Pure w W) => regCheck_calls (c := c) (d := d) (Rp.row_pure hr hu) (Rp.row_pure hg hu) hb hgl hgt)
  obtain ⟨k0, nm, l⟩ := e
  generalize regCheck (.mk k0 nm l) g = v at *
  clear h hr hg
  show Calls Try.prog 21 #[.agg #[.int .i64 k0, .string nm, .slice A l.length c], .slice B g.length d] w _
  go_enter Try.func21, Try.ntmps21
  go_wp2_with (go_at_call 8; refine (HC.out _ (Upd.alloc1 _ _ _)).mono ?_; rintro e w1 ⟨rfl, hu⟩; have HU := As.mk (Upd.trans (Upd.alloc1 (fun _ => False) _ _) hu (fun _ _ h => h)); clear hu)
  go_ret
  exact ⟨rfl, HU.out⟩

set_option maxRecDepth 100000 in
set_option maxHeartbeats 4000000 in
theorem made_some {F G : Nat → Prop} {A Bg : Option Addr} {c d : Nat} {e : Ex} {g : List Grp} {w : World} (hr : exR.row w F A e.l) (hg : grpR.row w G Bg g) (hF : ∀ k, F k → k < w.heap.size) (hG : ∀ k, G k → k < w.heap.size) (hb : e.wt ≤ 1048576 * 4) (hgl : g.length ≤ 1048576) (hgt : ∀ x ∈ g, x.types.length ≤ 1048576) (h : regCheck e g = 0) :
    Calls Try.prog 21 #[e.val A c, .slice Bg g.length d] w fun r w' => ∃ mb, r = .returned (.pointer (some ⟨mb, 0, none⟩)) ∧ Mac w' w'.heap.size mb (glu g e ([], [])).1.1 (glu g e ([], [])).1.2 (glu g e ([], [])).2 ∧ Pure w w' := by
  obtain ⟨hx, _, _⟩ := regCheck_zero h
  obtain ⟨hcnt, hok⟩ := exprCheck_zero hx
  have HBC := As.mk (build_right 200 e 0 hcnt hok hcnt)
  have HC := As.mk (fun (W : World) (hu : Pure w W) => regCheck_calls (c := c) (d := d) (Rp.row_pure hr hu) (Rp.row_pure hg hu) hb hgl hgt)
  rw [h] at HC
  have HR := As.mk hr
  have HG := As.mk hg
  have HF := As.mk hF
  have HGB := As.mk hG
  obtain ⟨k0, nm, l⟩ := e
  clear h hr hg hF hG hx hok
  show Calls Try.prog 21 #[.agg #[.int .i64 k0, .string nm, .slice A l.length c], .slice Bg g.length d] w _
  go_enter Try.func21, Try.ntmps21
  go_wp2_with (go_at_call 8; refine (HC.out _ (Upd.alloc1 _ _ _)).mono ?_; rintro e w1 ⟨rfl, hu⟩; have HU := As.mk (Upd.trans (Upd.alloc1 (fun _ => False) _ _) hu (fun _ _ h => h)); have hz := hu.size; have heb := (hu.block w.heap.size (by simp) (fun h => h)).trans (heap_alloc_new w _); clear hu; apply As.out)
  refine ⟨?_⟩
  have hw1 : w.heap.size + 1 ≤ w1.heap.size := by simpa using hz
  have hmach : Mach (w1.alloc (.cells #[.slice none 0 0, .slice none 0 0, .bool false, .slice none 0 0, .slice none 0 0] 69)) w1.heap.size (fun k => k = w1.heap.size) w1.heap.size [] [] (.bool false) (.slice none 0 0) (.slice none 0 0) (.slice none 0 0) (.slice none 0 0) [] :=
    ⟨heap_alloc_new w1 _, rfl, fun k hk => by subst hk; simp, Rp.own_nil _ _ _ _, fun k hk => by simp [Value.ownBlock] at hk, ⟨World.ownsRow_nil _ _ _ _, fun k hk => by simp [Value.ownBlock] at hk, fun i u x hu => by simp at hu, fun i j u u' k hu => by simp at hu⟩, fun k hk => by simp [Value.ownBlock] at hk⟩
  have HB2 := As.mk (HBC.out _ _ _ F G w1.heap.size ([], []) _ _ _ _ _ _ A Bg c d g rfl hmach (Rp.row_pure HR.out (HU.out.alloc _)) (fun k hk => by have := HF.out k hk; omega) (Rp.row_pure HG.out (HU.out.alloc _)) (fun k hk => by have := HGB.out k hk; omega) hgl (by simp only [List.length_nil]; omega) (fun y hy => by cases hy))
  obtain ⟨⟨x0, x1, x2⟩, _, _, _, hel⟩ := cells3 heb
  have HM0 := As.mk hmach
  clear hmach heb hz
  go_wp2_with (go_at_call 35; refine HB2.out.mono ?_; rintro e w2 ⟨Aq, cq, Ar, cr, M1, tv1, fv1, vs1, rfl, hm1, hg1, hqf, hql, hu1⟩; have HMM := As.mk hm1; have HGG := As.mk hg1; have HQF := As.mk hqf; have HQL := As.mk hql; have HU1 := As.mk hu1; clear hm1 hg1 hqf hql hu1; apply As.out)
  refine ⟨?_⟩
  have hblk := HMM.out.blk
  have hmb0 : w2.cell? ⟨w1.heap.size, 2, none⟩ = some (.bool false) := by unfold World.cell?; simp only [hblk]; rfl
  have hmb1 : w2.cell? ⟨w1.heap.size, 3, none⟩ = some (.slice none 0 0) := by unfold World.cell?; simp only [hblk]; rfl
  have hmb2 : w2.cell? ⟨w1.heap.size, 4, none⟩ = some (.slice none 0 0) := by unfold World.cell?; simp only [hblk]; rfl
  have f0 : w2.frozen? ⟨w1.heap.size, 2, none⟩ = false := by simp [World.frozen?, hblk]
  have f1 : w2.frozen? ⟨w1.heap.size, 3, none⟩ = false := by simp [World.frozen?, hblk]
  have f2 : w2.frozen? ⟨w1.heap.size, 4, none⟩ = false := by simp [World.frozen?, hblk]
  have hml := (Array.getElem?_eq_some_iff.1 hblk).1
  have hbeg := Mach.begin HMM.out (.bool (glu g (.mk k0 nm l) ([], [])).2.none) (.slice Aq (glu g (.mk k0 nm l) ([], [])).2.first.length cq) (.slice Ar (glu g (.mk k0 nm l) ([], [])).2.last.length cr)
  have HBG := As.mk hbeg
  clear hbeg hblk
  go_wp2
  go_ret
  have hne : ∀ (q : Nat), (w1.alloc (.cells #[.slice none 0 0, .slice none 0 0, .bool false, .slice none 0 0, .slice none 0 0] 69)).heap.size ≤ q ∧ ¬ M1 q → q ≠ w1.heap.size := fun q hq he => by have := hq.1; simp at this; omega
  refine ⟨w1.heap.size, rfl, HBG.out.1.mac (Rp.row_upd HQF.out HBG.out.2 (fun q _ hq he => hne q hq he)) (Rp.row_upd HQL.out HBG.out.2 (fun q _ hq he => hne q hq he)), ?_⟩
  have u1 : Upd (fun k => k = w1.heap.size) w1 w2 := Upd.trans (Upd.alloc1 _ w1 _) HU1.out (fun _ _ h => h)
  exact Upd.trans HU.out (Upd.trans u1 HBG.out.2 (fun _ _ h => h)) (fun q hq h => by omega)
end Go.Proofs.Ytchgeaklaeoplaa
