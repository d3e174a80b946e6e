/- My own texts, packed: Made, MOk, Acc. -/
import Derived.Test.YtofjodppljnlaaaGreatDoorP2
namespace Go.Proofs.YtofjodppljnlaaaGreatDoor
open Go.RowKit
set_option linter.unusedVariables false
set_option linter.unusedSimpArgs false
structure Part where
  none : Bool
  first : List Int
  last : List Int
abbrev St := List (List Int) × List (List Int)
mutual
/-- What build reckons: the types of the places, who follows whom; the part. -/
def glu (g : List Grp) : Ex → St → St × Part
  | .mk k nm l, s =>
    if k = 0 then (s, ⟨true, [], []⟩)
    else if k = 1 then ((s.1 ++ [typesOf g nm], s.2 ++ [[]]), ⟨false, [(s.1.length : Int)], [(s.1.length : Int)]⟩)
    else if k = 3 then gluAlt g l s ⟨false, [], []⟩
    else if k = 2 then gluSeq g l s ⟨true, [], []⟩
    else
      let r := gluOne g l s
      ((r.1.1, if k ≠ 6 then joinF r.1.2 r.2.last r.2.first else r.1.2), ⟨r.2.none || decide (k ≠ 5), r.2.first, r.2.last⟩)
def gluOne (g : List Grp) : List Ex → St → St × Part
  | [], s => (s, ⟨true, [], []⟩)
  | x :: _, s => glu g x s
def gluAlt (g : List Grp) : List Ex → St → Part → St × Part
  | [], s, p => (s, p)
  | x :: r, s, p =>
    let q := glu g x s
    gluAlt g r q.1 ⟨p.none || q.2.none, p.first ++ q.2.first, p.last ++ q.2.last⟩
def gluSeq (g : List Grp) : List Ex → St → Part → St × Part
  | [], s, p => (s, p)
  | x :: r, s, p =>
    let q := glu g x s
    gluSeq g r (q.1.1, joinF q.1.2 p.last q.2.first) ⟨p.none && q.2.none, if p.none = true then p.first ++ q.2.first else p.first, if q.2.none = true then p.last ++ q.2.last else q.2.last⟩
end
/-- How great it all is. -/
structure Bd (s r : St) (p : Part) (n : Nat) : Prop where
  len : s.2.length = s.1.length → r.2.length = r.1.length
  lo : s.1.length ≤ r.1.length
  hi : r.1.length ≤ s.1.length + n
  first : ∀ a ∈ p.first, 0 ≤ a ∧ a < r.1.length
  last : ∀ a ∈ p.last, 0 ≤ a ∧ a < r.1.length
  fl : p.first.length ≤ n
  ll : p.last.length ≤ n
theorem Bd.up {s r r' : St} {p : Part} {n m : Nat} (h : Bd s r p n) (hl : r'.1.length = r.1.length) (hf : r'.2.length = r.2.length) (hm : n ≤ m) : Bd s r' p m :=
  ⟨fun e => by rw [hf, hl]; exact h.len e, by rw [hl]; exact h.lo, by rw [hl]; have := h.hi; omega, fun a ha => by rw [hl]; exact h.first a ha, fun a ha => by rw [hl]; exact h.last a ha, Nat.le_trans h.fl hm, Nat.le_trans h.ll hm⟩
/-- A part of what is already there, and what a tree adds. -/
theorem Bd.next {s0 s r : St} {p q : Part} {n m : Nat} (h : Bd s0 s p n) (h' : Bd s r q m) (r' : St) (hl : r'.1.length = r.1.length) (hf : r'.2.length = r.2.length) (t : Part) (ht : (∀ a ∈ t.first, a ∈ p.first ∨ a ∈ q.first) ∧ (∀ a ∈ t.last, a ∈ p.last ∨ a ∈ q.last) ∧ t.first.length ≤ p.first.length + q.first.length ∧ t.last.length ≤ p.last.length + q.last.length) : Bd s0 r' t (n + m) := by
  obtain ⟨t1, t2, t3, t4⟩ := ht
  have hlo := h'.lo
  refine ⟨fun e => by rw [hf, hl]; exact h'.len (h.len e), by rw [hl]; exact Nat.le_trans h.lo h'.lo, by rw [hl]; have := h.hi; have := h'.hi; omega, fun a ha => ?_, fun a ha => ?_, by have := h.fl; have := h'.fl; omega, by have := h.ll; have := h'.ll; omega⟩
  · rw [hl]
    rcases t1 a ha with h1 | h1
    · have := h.first a h1; omega
    · exact h'.first a h1
  · rw [hl]
    rcases t2 a ha with h1 | h1
    · have := h.last a h1; omega
    · exact h'.last a h1
theorem mem_ite_l {c : Bool} {a : Int} {p q : List Int} (h : a ∈ (if c = true then p ++ q else p)) : a ∈ p ∨ a ∈ q := by
  split at h
  · exact List.mem_append.1 h
  · exact .inl h
theorem mem_ite_r {c : Bool} {a : Int} {p q : List Int} (h : a ∈ (if c = true then p ++ q else q)) : a ∈ p ∨ a ∈ q := by
  split at h
  · exact List.mem_append.1 h
  · exact .inr h
theorem len_ite_l {c : Bool} {p q : List Int} : (if c = true then p ++ q else p).length ≤ p.length + q.length := by split <;> simp
theorem len_ite_r {c : Bool} {p q : List Int} : (if c = true then p ++ q else q).length ≤ p.length + q.length := by split <;> simp
mutual
theorem glu_bd (g : List Grp) : ∀ (e : Ex) (s : St), Bd s (glu g e s).1 (glu g e s).2 e.cnt
  | .mk k nm l, s => by
    rw [glu]
    by_cases h0 : k = 0
    · rw [if_pos h0]
      exact ⟨id, Nat.le_refl _, by simp, by simp, by simp, by simp, by simp⟩
    · rw [if_neg h0]
      by_cases h1 : k = 1
      · rw [if_pos h1]
        exact ⟨fun e => by simp [e], by simp, by simp only [Ex.cnt, List.length_append, List.length_singleton]; omega, fun a ha => by simp at ha ⊢; omega, fun a ha => by simp at ha ⊢; omega, by simp [Ex.cnt], by simp [Ex.cnt]⟩
      · rw [if_neg h1]
        by_cases h3 : k = 3
        · rw [if_pos h3]
          have := gluAlt_bd g l s s ⟨false, [], []⟩ 0 ⟨id, Nat.le_refl _, by simp, by simp, by simp, by simp, by simp⟩
          exact this.up rfl rfl (by simp [Ex.cnt])
        · rw [if_neg h3]
          by_cases h2 : k = 2
          · rw [if_pos h2]
            have := gluSeq_bd g l s s ⟨true, [], []⟩ 0 ⟨id, Nat.le_refl _, by simp, by simp, by simp, by simp, by simp⟩
            exact this.up rfl rfl (by simp [Ex.cnt])
          · rw [if_neg h2]
            have := gluOne_bd g l s
            refine (Bd.up (r' := ((gluOne g l s).1.1, if k ≠ 6 then joinF (gluOne g l s).1.2 (gluOne g l s).2.last (gluOne g l s).2.first else (gluOne g l s).1.2)) this rfl (by split <;> simp [joinF_len]) (m := Ex.cnt (.mk k nm l)) (by simp [Ex.cnt])) |> fun h => ⟨h.len, h.lo, h.hi, h.first, h.last, h.fl, h.ll⟩
theorem gluOne_bd (g : List Grp) : ∀ (l : List Ex) (s : St), Bd s (gluOne g l s).1 (gluOne g l s).2 (Ex.cnts l)
  | [], s => ⟨id, Nat.le_refl _, by simp [gluOne], by simp [gluOne], by simp [gluOne], by simp [gluOne], by simp [gluOne]⟩
  | x :: r, s => (glu_bd g x s).up rfl rfl (by simp [Ex.cnts])
theorem gluAlt_bd (g : List Grp) : ∀ (l : List Ex) (s0 s : St) (p : Part) (n : Nat), Bd s0 s p n → Bd s0 (gluAlt g l s p).1 (gluAlt g l s p).2 (n + Ex.cnts l)
  | [], s0, s, p, n, h => h.up rfl rfl (by simp)
  | x :: r, s0, s, p, n, h => by
    have h2 := Bd.next h (glu_bd g x s) (glu g x s).1 rfl rfl ⟨p.none || (glu g x s).2.none, p.first ++ (glu g x s).2.first, p.last ++ (glu g x s).2.last⟩ ⟨by simp, by simp, by simp, by simp⟩
    have h3 := gluAlt_bd g r s0 _ _ _ h2
    rw [gluAlt]
    exact h3.up rfl rfl (by simp [Ex.cnts]; omega)
theorem gluSeq_bd (g : List Grp) : ∀ (l : List Ex) (s0 s : St) (p : Part) (n : Nat), Bd s0 s p n → Bd s0 (gluSeq g l s p).1 (gluSeq g l s p).2 (n + Ex.cnts l)
  | [], s0, s, p, n, h => h.up rfl rfl (by simp)
  | x :: r, s0, s, p, n, h => by
    have h2 := Bd.next h (glu_bd g x s) ((glu g x s).1.1, joinF (glu g x s).1.2 p.last (glu g x s).2.first) rfl (joinF_len _ _ _) ⟨p.none && (glu g x s).2.none, if p.none = true then p.first ++ (glu g x s).2.first else p.first, if (glu g x s).2.none = true then p.last ++ (glu g x s).2.last else (glu g x s).2.last⟩
      ⟨fun a ha => mem_ite_l ha, fun a ha => mem_ite_r ha, len_ite_l, len_ite_r⟩
    have h3 := gluSeq_bd g r s0 _ _ _ h2
    rw [gluSeq]
    exact h3.up rfl rfl (by simp [Ex.cnts]; omega)
end
mutual
theorem glu_fb (g : List Grp) : ∀ (e : Ex) (s : St) (b : Nat), (∀ x ∈ s.2, x.length ≤ b) → e.cnt ≤ 200 → ∀ x ∈ (glu g e s).1.2, x.length + 40000 ≤ b + 80000 * e.cnt
  | .mk k nm l, s, b, hb, hc => by
    have hc1 : Ex.cnt (.mk k nm l) = 1 + Ex.cnts l := by simp [Ex.cnt]
    rw [glu]
    by_cases h0 : k = 0
    · rw [if_pos h0]
      intro x hx
      have := hb x hx
      omega
    · rw [if_neg h0]
      by_cases h1 : k = 1
      · rw [if_pos h1]
        intro x hx
        rcases List.mem_append.1 hx with hx | hx
        · have := hb x hx; omega
        · simp at hx; subst hx; simp; omega
      · rw [if_neg h1]
        by_cases h3 : k = 3
        · rw [if_pos h3]
          intro x hx
          have := gluAlt_fb g l s ⟨false, [], []⟩ b hb (by omega) x hx
          omega
        · rw [if_neg h3]
          by_cases h2 : k = 2
          · rw [if_pos h2]
            intro x hx
            have := gluSeq_fb g l s ⟨true, [], []⟩ b 0 hb (by simp) (by omega) x hx
            omega
          · rw [if_neg h2]
            have h4 := gluOne_fb g l s b hb (by omega)
            have h5 := gluOne_bd g l s
            intro x hx
            dsimp only at hx
            split at hx
            · have := joinF_bound (b := b + 80000 * Ex.cnts l) (fun y hy => h4 y hy) x hx
              have h6 : (gluOne g l s).2.last.length * (gluOne g l s).2.first.length ≤ 200 * 200 := Nat.mul_le_mul (Nat.le_trans h5.ll (by omega)) (Nat.le_trans h5.fl (by omega))
              omega
            · have := h4 x hx
              omega
theorem gluOne_fb (g : List Grp) : ∀ (l : List Ex) (s : St) (b : Nat), (∀ x ∈ s.2, x.length ≤ b) → Ex.cnts l ≤ 200 → ∀ x ∈ (gluOne g l s).1.2, x.length ≤ b + 80000 * Ex.cnts l
  | [], s, b, hb, hc => fun x hx => by have := hb x hx; omega
  | y :: r, s, b, hb, hc => fun x hx => by
    have hc1 : Ex.cnts (y :: r) = y.cnt + Ex.cnts r := by simp [Ex.cnts]
    have := glu_fb g y s b hb (by omega) x hx
    omega
theorem gluAlt_fb (g : List Grp) : ∀ (l : List Ex) (s : St) (p : Part) (b : Nat), (∀ x ∈ s.2, x.length ≤ b) → Ex.cnts l ≤ 200 → ∀ x ∈ (gluAlt g l s p).1.2, x.length ≤ b + 80000 * Ex.cnts l
  | [], s, p, b, hb, hc => fun x hx => by have := hb x hx; omega
  | y :: r, s, p, b, hb, hc => fun x hx => by
    have hc1 : Ex.cnts (y :: r) = y.cnt + Ex.cnts r := by simp [Ex.cnts]
    have h1 := glu_fb g y s b hb (by omega)
    rw [gluAlt] at hx
    have := gluAlt_fb g r (glu g y s).1 _ (b + 80000 * y.cnt) (fun z hz => by have := h1 z hz; omega) (by omega) x hx
    omega
theorem gluSeq_fb (g : List Grp) : ∀ (l : List Ex) (s : St) (p : Part) (b n : Nat), (∀ x ∈ s.2, x.length ≤ b) → p.last.length ≤ n → n + Ex.cnts l ≤ 200 → ∀ x ∈ (gluSeq g l s p).1.2, x.length ≤ b + 80000 * Ex.cnts l
  | [], s, p, b, n, hb, hp, hc => fun x hx => by have := hb x hx; omega
  | y :: r, s, p, b, n, hb, hp, hc => fun x hx => by
    have hc1 : Ex.cnts (y :: r) = y.cnt + Ex.cnts r := by simp [Ex.cnts]
    have h1 := glu_fb g y s b hb (by omega)
    have h2 := glu_bd g y s
    rw [gluSeq] at hx
    have h3 : ∀ z ∈ joinF (glu g y s).1.2 p.last (glu g y s).2.first, z.length ≤ b + 80000 * y.cnt := fun z hz => by
      have := joinF_bound (b := b + 80000 * y.cnt - 40000) (fun u hu => by have := h1 u hu; omega) z hz
      have h6 : p.last.length * (glu g y s).2.first.length ≤ 200 * 200 := Nat.mul_le_mul (by omega) (Nat.le_trans h2.fl (by omega))
      have := y.cnt_pos
      omega
    have := gluSeq_fb g r ((glu g y s).1.1, joinF (glu g y s).1.2 p.last (glu g y s).2.first) _ (b + 80000 * y.cnt) (n + y.cnt) h3 (by have := h2.ll; have := @len_ite_r (glu g y s).2.none p.last (glu g y s).2.last; dsimp only; omega) (by omega) x hx
    omega
end
end Go.Proofs.YtofjodppljnlaaaGreatDoor
namespace Go.Proofs.YtofjodppljnlaaaGreatDoor
open Go.RowKit
set_option linter.unusedVariables false
set_option linter.unusedSimpArgs false
/-- What build leaves. -/
def BuildPost (w w' : World) (B : Nat) (M : Nat → Prop) (mb : Nat) (b0 b1 b2 : Value) (s : St) (p : Part) (r : Ending) : Prop :=
  ∃ Af cf Al cl M' tv fv vs, r = .returned (.agg #[.bool p.none, .slice Af p.first.length cf, .slice Al p.last.length cl]) ∧ Mach w' B M' mb s.1 s.2 b0 b1 b2 tv fv vs ∧ Grow M M' w.heap.size w'.heap.size ∧
    intR.row w' (fun k => w.heap.size ≤ k ∧ ¬ M' k) Af p.first ∧ intR.row w' (fun k => w.heap.size ≤ k ∧ ¬ M' k) Al p.last ∧ Upd M w w'
theorem build_ret {R : Ending → World → Prop} {a : Act} {w' : World} {rb : Nat} {v0 v1 v2 : Value} {fr : Nat × Nat} (hp : a.tmps.getD 6 undef = .pointer (some ⟨rb, 0, none⟩)) (hg : w'.heap[rb]? = some (.cells #[v0, v1, v2] 221 fr)) (hd : a.defers = []) (hR : R (.returned (.agg #[v0, v1, v2])) w') :
    bodyPost Tryz.prog Tryz.f165 R .ret a w' :=
  bodyPost_ret (results_cell_row (P := Tryz.prog) rfl _ _ rb 221 #[v0, v1, v2] fr _ hp hg Tryz.underlying221 rfl (by kernel_rfl)) hd hR
theorem set3 {w : World} {rb : Nat} {x0 x1 x2 : Value} {t : TypeId} {fr : Nat × Nat} (h : w.heap[rb]? = some (.cells #[x0, x1, x2] t fr)) (y0 y1 y2 : Value) :
    (((w.setCell ⟨rb, 0, none⟩ y0).setCell ⟨rb, 1, none⟩ y1).setCell ⟨rb, 2, none⟩ y2).heap[rb]? = some (.cells #[y0, y1, y2] t fr) := by simp [World.setCell, Array.getElem?_modify, h]
theorem set3_upd (w : World) (rb : Nat) (y0 y1 y2 : Value) : Upd (fun k => k = rb) w (((w.setCell ⟨rb, 0, none⟩ y0).setCell ⟨rb, 1, none⟩ y1).setCell ⟨rb, 2, none⟩ y2) :=
  (((Upd.refl (fun k => k = rb) w).setCell (p := ⟨rb, 0, none⟩) (fun _ => rfl) _).setCell (p := ⟨rb, 1, none⟩) (fun _ => rfl) _).setCell (p := ⟨rb, 2, none⟩) (fun _ => rfl) _
theorem slice_info : (Tryz.prog.info? 83).map (fun i => (i.zero, i.size, i.bytes)) = some (some (.slice none 0 0), 1, 24) := by kernel_rfl
/-- What is shown of build, tree by tree. -/
def BuildC (e : Ex) : Prop := ∀ (w : World) (B : Nat) (M F G : Nat → Prop) (mb : Nat) (s : St) (b0 b1 b2 tv fv : Value) (vs : List Value) (A Ag : Option Addr) (c cg : Nat) (g : List Grp), s.2.length = s.1.length →
  Mach w B M mb s.1 s.2 b0 b1 b2 tv fv vs → exR.row w F A e.l → (∀ k, F k → k < B) → grpR.row w G Ag g → (∀ k, G k → k < B) → g.length ≤ 1048576 → s.1.length + e.cnt ≤ 1000 → (∀ x ∈ s.2, x.length + 80000 * e.cnt ≤ 1000000000) →
  Calls Tryz.prog 165 #[.pointer (some ⟨mb, 0, none⟩), e.val A c, .slice Ag g.length cg] w fun r w' => BuildPost w w' B M mb b0 b1 b2 (glu g e s).1 (glu g e s).2 r
set_option maxRecDepth 100000 in
set_option maxHeartbeats 4000000 in
theorem build_none (nm : ByteArray) (l : List Ex) : BuildC (.mk 0 nm l) := by
  intro w B M F G mb s b0 b1 b2 tv fv vs A Ag c cg g hsl0 hm hr hF hg hG hgl hs hfb
  obtain ⟨s1, s2⟩ := s
  have HM := As.mk hm
  have HR := As.mk hr
  have HF := As.mk hF
  have HG := As.mk hg
  have HGB := As.mk hG
  have HFB := As.mk hfb
  simp only at hsl0
  have hlb := (hm.low mb hm.mbM)
  clear hm hr hF hg hG hfb
  have HV : As (glu g (.mk 0 nm l) (s1, s2) = ((s1, s2), ⟨true, [], []⟩)) := ⟨by rw [glu]; rfl⟩
  show Calls Tryz.prog 165 #[.pointer (some ⟨mb, 0, none⟩), .agg #[.int .i64 0, .string nm, .slice A l.length c], .slice Ag g.length cg] w _
  go_enter Tryz.func165, Tryz.ntmps165
  go_wp2
  refine build_ret (rb := w.heap.size + 1) rfl (heap_alloc2_new w _ _) rfl ?_
  rw [HV.out]
  exact ⟨none, 0, none, 0, M, tv, fv, vs, rfl, HM.out.pure ((Upd.alloc1 _ _ _).alloc _), ⟨fun _ h => h, fun _ h => .inl h⟩, .inl rfl, .inl rfl, (Upd.alloc1 _ _ _).alloc _⟩
set_option maxRecDepth 100000 in
set_option maxHeartbeats 4000000 in
theorem build_name (nm : ByteArray) (l : List Ex) : BuildC (.mk 1 nm l) := by
  intro w B M F G mb s b0 b1 b2 tv fv vs A Ag c cg g hsl0 hm hr hF hg hG hgl hs hfb
  obtain ⟨s1, s2⟩ := s
  have HM := As.mk hm
  have HR := As.mk hr
  have HF := As.mk hF
  have HG := As.mk hg
  have HGB := As.mk hG
  have HFB := As.mk hfb
  simp only at hsl0
  have hlb := (hm.low mb hm.mbM)
  clear hm hr hF hg hG hfb
  have hcnt : 1 ≤ (Ex.mk 1 nm l).cnt := Ex.cnt_pos _
  have HV : As (glu g (.mk 1 nm l) (s1, s2) = ((s1 ++ [typesOf g nm], s2 ++ [[]]), ⟨false, [(s1.length : Int)], [(s1.length : Int)]⟩)) := ⟨by rw [glu]; rfl⟩
  have hsl : s1.length ≤ 1000 := by simp only at hs; omega
  show Calls Tryz.prog 165 #[.pointer (some ⟨mb, 0, none⟩), .agg #[.int .i64 1, .string nm, .slice A l.length c], .slice Ag g.length cg] w _
  go_enter Tryz.func165, Tryz.ntmps165
  go_wp2
  generalize hW : (w.alloc (.cells #[.int .i64 1, .string nm, .slice A l.length c] 92)).alloc (.cells #[.bool false, .slice none 0 0, .slice none 0 0] 221) = W
  have HPW : As (Pure w W) := ⟨hW ▸ (Upd.alloc1 _ _ _).alloc _⟩
  have hWs : W.heap.size = w.heap.size + 2 := by subst hW; simp
  have HRB : As (W.heap[w.heap.size + 1]? = some (.cells #[.bool false, .slice none 0 0, .slice none 0 0] 221)) := ⟨hW ▸ heap_alloc2_new w _ _⟩
  have HEB : W.heap[w.heap.size]? = some (.cells #[.int .i64 1, .string nm, .slice A l.length c] 92) := hW ▸ heap_alloc2_old w _ _
  have HXC : W.cell? ⟨w.heap.size, 1, none⟩ = some (.string nm) := by unfold World.cell?; simp only [HEB]; rfl
  clear hW HEB
  have HMW := As.mk (HM.out.pure HPW.out)
  have HMd := As.mk (HMW.out.pure ((Upd.refl _ _).drew))
  have HPd := As.mk (show Pure w W.drew from HPW.out.drew)
  have HSK : As (∀ w1, Upd (fun k => tv.ownBlock = some k) W.drew w1 → w1.cell? ⟨mb, 0, none⟩ = some tv ∧ w1.frozen? ⟨mb, 0, none⟩ = false ∧ w1.cell? ⟨w.heap.size, 1, none⟩ = some (.string nm)) := ⟨by
    intro w1 hu
    obtain ⟨ti, hto, _⟩ := HMd.out.types
    have n1 : ¬ tv.ownBlock = some mb := own_ne_block hto HMd.out.blk (by decide)
    have n2 : ¬ tv.ownBlock = some w.heap.size := fun h => by have := (HM.out.low _ (HM.out.typesM _ h)).2; omega
    have hb : W.drew.heap.size = W.heap.size := rfl
    have hml := (HMd.out.low _ HMd.out.mbM).2
    have hbk := HMd.out.blk
    refine ⟨(hu.cell hml n1).trans ?_, (hu.frozen hml n1).trans ?_, (hu.cell (by omega) n2).trans HXC⟩
    · unfold World.cell?; simp only [hbk]; rfl
    · simp [World.frozen?, hbk]⟩
  have HS0 := As.mk (HSK.out _ (Upd.refl _ _))
  clear HXC
  refine wp_region_T (P := Tryz.prog) (fun w1 => w1.cell? ⟨mb, 0, none⟩ = some tv ∧ w1.frozen? ⟨mb, 0, none⟩ = false ∧ w1.cell? ⟨w.heap.size, 1, none⟩ = some (.string nm)) 13 (by kernel_rfl) ?_ (fun hHeld => ?_)
  · first | exact HS0.out | exact HSK.out _ HA3.out | exact HSK.out _ HA2.out | exact HSK.out _ HA1.out
  refine zT 0 ?_
  refine zT 1 ?_
  refine zT 2 ?_
  refine zT 3 ?_
  (try simp only [Act.put, sA, sB, sC])
  refine zT 4 ?_
  refine zT 5 ?_
  refine zT 6 ?_
  refine zT 7 ?_
  (try simp only [Act.put, sA, sB, sC])
  refine oT 8 (fun K hK => ?_)
  go_simp
  (go_at_call 188; refine (types_calls nm (Rp.row_pure HG.out HPd.out) hgl).mono ?_; rintro e w1 ⟨⟨A1, c1, rfl, hc1, hrow⟩, hu⟩; have HA1 := As.mk (show Upd (fun k => tv.ownBlock = some k) W.drew w1 from hu.mono (fun _ _ h => h.elim)); have HA2 := As.mk (show Upd (fun k => tv.ownBlock = some k) W.drew (w1.alloc (.cells #[.slice A1 (typesOf g nm).length c1] 83)) from HA1.out.alloc _); have HP2 := As.mk (show Pure W.drew (w1.alloc (.cells #[.slice A1 (typesOf g nm).length c1] 83)) from hu.alloc _); have HO := As.mk (Rp.own_upd HMd.out.types HP2.out (fun _ _ _ h => h)); have HY := As.mk (Rp.row'_one (d := intR.slice) (F := fun k => k < B) (x := typesOf g nm) (cs := [.slice A1 (typesOf g nm).length c1]) ⟨A1, c1, rfl, hc1, Rp.row_fp (Rp.row_pure hrow HP2.out) HGB.out⟩ (heap_alloc_new w1 (.cells #[.slice A1 (typesOf g nm).length c1] 83))); clear hrow hu)
  refine hK.out _ _ (fun _ => by first | exact HS0.out | exact HSK.out _ HA3.out | exact HSK.out _ HA2.out | exact HSK.out _ HA1.out) (fun hHeld => ?_)
  replace hHeld := hHeld (by decide)
  clear hK K
  (try simp only [Act.put, sA, sB, sC])
  refine oT 9 (fun K hK => ?_)
  go_simp
  refine hK.out _ _ (fun _ => by first | exact HS0.out | exact HSK.out _ HA3.out | exact HSK.out _ HA2.out | exact HSK.out _ HA1.out) (fun hHeld => ?_)
  replace hHeld := hHeld (by decide)
  clear hK K
  (try simp only [Act.put, sA, sB, sC])
  refine oT 10 (fun K hK => ?_)
  refine Rp.step_append_row intR.slice (c := 1) HO.out HY.out (fun k hk _ he => by have := (HM.out.low k (HM.out.typesM k he.symm)).1; omega) (by rfl) _ _ 196 (.slice none 0 0) 24 (by rfl) Tryz.underlying196 slice_info rfl (by decide) (by decide) (by rfl) (by rfl) (by simp; omega) ?_; intro v1 w2 ho1 hu1 hat; obtain ⟨A2, c2, rfl, _, _⟩ := Rp.own_slice ho1; have HA3 := As.mk (show Upd (fun k => tv.ownBlock = some k) W.drew w2 from Upd.trans HA2.out hu1 (fun _ _ h => h)); have HM3 := As.mk (Mach.types1 (HMd.out.pure HP2.out) ho1 hu1 hat); have HW3 := As.mk hu1.size; clear ho1 hu1 hat
  refine hK.out _ _ (fun _ => by first | exact HS0.out | exact HSK.out _ HA3.out | exact HSK.out _ HA2.out | exact HSK.out _ HA1.out) (fun hHeld => ?_)
  replace hHeld := hHeld (by decide)
  clear hK K
  (try simp only [Act.put, sA, sB, sC])
  refine oT 11 (fun K hK => ?_)
  go_simp
  refine hK.out _ _ (fun _ => by first | exact HS0.out | exact HSK.out _ HA3.out | exact HSK.out _ HA2.out | exact HSK.out _ HA1.out) (fun hHeld => ?_)
  replace hHeld := hHeld (by decide)
  clear hK K
  (try simp only [Act.put, sA, sB, sC])
  refine zT 12 ?_
  refine oT 13 (fun K hK => ?_)
  go_simp
  refine hK.out _ _ (fun h => absurd rfl h) (fun hHeld => ?_)
  clear hK K
  (try simp only [Act.put, sA, sB, sC])
  refine wpAnyT_done (by kernel_rfl) ?_ _
  obtain ⟨hm3, hu3⟩ := HM3.out
  have hl1 : (s1 ++ [typesOf g nm]).length = s1.length + 1 := by simp
  rw [hl1] at hm3 hu3
  have hrb3 : (w2.setCell ⟨mb, 0, none⟩ (.slice A2 (s1.length + 1) c2)).heap[w.heap.size + 1]? = some (.cells #[.bool false, .slice none 0 0, .slice none 0 0] 221 (0, 0)) := by
    have n1 : ¬ M (w.heap.size + 1) := fun h => by have := (HM.out.low _ h).2; omega
    have e1 := hu3.block (w.heap.size + 1) (Nat.lt_of_lt_of_le (show w.heap.size + 1 < W.heap.size by omega) HP2.out.size) n1
    rw [e1, HP2.out.block (w.heap.size + 1) (by show w.heap.size + 1 < W.heap.size; omega) (fun h => h)]
    exact HRB.out
  have hs3 : W.heap.size ≤ (w2.setCell ⟨mb, 0, none⟩ (.slice A2 (s1.length + 1) c2)).heap.size := by
    have h1 : W.heap.size ≤ (w1.alloc (.cells #[.slice A1 (typesOf g nm).length c1] 83)).heap.size := HP2.out.size
    have h2 := hu3.size
    omega
  have hg3 : As (Grow M (fun k => M k ∨ ((w1.alloc (.cells #[.slice A1 (typesOf g nm).length c1] 83)).heap.size ≤ k ∧ k < w2.heap.size)) w.heap.size (w2.setCell ⟨mb, 0, none⟩ (.slice A2 (s1.length + 1) c2)).heap.size) := ⟨⟨fun k hk => .inl hk, fun k hk => by
    rcases hk with hk | hk
    · exact .inl hk
    · have h1 : W.heap.size ≤ (w1.alloc (.cells #[.slice A1 (typesOf g nm).length c1] 83)).heap.size := HP2.out.size
      exact .inr ⟨by omega, by have := hk.2; simpa [World.setCell] using this⟩⟩⟩
  have hU3 : As (Upd M w (w2.setCell ⟨mb, 0, none⟩ (.slice A2 (s1.length + 1) c2))) := ⟨Upd.trans (HPd.out.mono (fun _ _ h => h.elim)) (Upd.trans (HP2.out.mono (S' := M) (fun _ _ h => h.elim)) hu3 (fun _ _ h => h)) (fun _ _ h => h)⟩
  have HWW : As (W.heap.size ≤ (w1.alloc (.cells #[.slice A1 (typesOf g nm).length c1] 83)).heap.size) := ⟨HP2.out.size⟩
  generalize hw3 : w2.setCell ⟨mb, 0, none⟩ (.slice A2 (s1.length + 1) c2) = w3 at *
  clear hw3 hu3 HM3 HA1 HA2 HA3 HO HY HP2 HW3 HS0 HSK
  have HM3 := As.mk hm3
  have HB3 := As.mk hrb3
  have q0 : w3.cell? ⟨mb, 1, none⟩ = some fv := by unfold World.cell?; simp only [hm3.blk]; rfl
  obtain ⟨i0, hi, hz0, hz1, hz2⟩ := info_parts slice_info
  clear hm3 hrb3
  have hsl2 : s2.length ≤ 1000 := by omega
  go_wp2_with (at_builtin; refine wpList_append_own_at _ rfl _ _ 196 rfl 0 83 i0 (.slice none 0 0) 1 24 Tryz.underlying196 hi hz0 hz1 hz2 rfl (by decide) _ _ _ rfl (HM3.out.foll.own.alloc _) ⟨w3.heap.size, 0, none⟩ 1 1 [.slice none 0 0] rfl rfl (cell_one_new _ _ _) (by simp [Value.oneCell']) (by unfold maxLen; omega) (by omega) (Nat.zero_le _) ?_; intro v2 w4 ho2 hg2 _ hat2; obtain ⟨g2, cap2, rfl, _, hg2l⟩ := ho2.form (by omega); apply As.out)
  refine ⟨?_⟩
  have hU4 : Upd (fun k => fv.ownBlock = some k) w3 w4 := Upd.grown1 (World.grownBy.trans (World.grownBy_alloc w3 _ _) hg2) (fun k hk => hk)
  obtain ⟨hm5, hu5⟩ := Mach.foll1 HM3.out ho2 hU4 (hat2.imp id (fun h => ⟨_, h, by simp⟩))
  have n1 : ¬ fv.ownBlock = some mb := own_ne_block HM3.out.foll.own HM3.out.blk (by decide)
  have n2 : ¬ fv.ownBlock = some (w.heap.size + 1) := fun h => by
    rcases HM3.out.foll.inM _ h with h | h
    · have := (HM.out.low _ h).2; omega
    · have h9 : W.heap.size ≤ w.heap.size + 1 := Nat.le_trans HWW.out h.1
      omega
  have hmb4 : w4.heap[mb]? = some (.cells #[.slice A2 (s1.length + 1) c2, fv, b0, b1, b2] 223 (0, 0)) := by rw [hU4.block mb (HM3.out.low mb HM3.out.mbM).2 n1]; exact HM3.out.blk
  have hrb4 : w4.heap[w.heap.size + 1]? = some (.cells #[.bool false, .slice none 0 0, .slice none 0 0] 221 (0, 0)) := by rw [hU4.block _ (by omega) n2]; exact HB3.out
  have c0 : w4.cell? ⟨mb, 0, none⟩ = some (.slice A2 (s1.length + 1) c2) := by unfold World.cell?; simp only [hmb4]; rfl
  have c1' : w4.cell? ⟨mb, 1, none⟩ = some fv := by unfold World.cell?; simp only [hmb4]; rfl
  have f1 : w4.frozen? ⟨mb, 1, none⟩ = false := by simp [World.frozen?, hmb4]
  have r0 : w4.cell? ⟨w.heap.size + 1, 0, none⟩ = some (.bool false) := by unfold World.cell?; simp only [hrb4]; rfl
  have r1 : w4.cell? ⟨w.heap.size + 1, 1, none⟩ = some (.slice none 0 0) := by unfold World.cell?; simp only [hrb4]; rfl
  have r2 : w4.cell? ⟨w.heap.size + 1, 2, none⟩ = some (.slice none 0 0) := by unfold World.cell?; simp only [hrb4]; rfl
  have e0 : w4.frozen? ⟨w.heap.size + 1, 0, none⟩ = false := by simp [World.frozen?, hrb4]
  have e1 : w4.frozen? ⟨w.heap.size + 1, 1, none⟩ = false := by simp [World.frozen?, hrb4]
  have e2 : w4.frozen? ⟨w.heap.size + 1, 2, none⟩ = false := by simp [World.frozen?, hrb4]
  have hmr : mb ≠ w.heap.size + 1 := by omega
  have hmr2 : w.heap.size + 1 ≠ mb := by omega
  have hml4 := (Array.getElem?_eq_some_iff.1 hmb4).1
  have hrl4 := (Array.getElem?_eq_some_iff.1 hrb4).1
  have HM5 := As.mk hm5
  have HU5 := As.mk hu5
  have HR4 := As.mk hrb4
  have HG2 := As.mk hU4.size
  clear hm5 hu5 hrb4 hmb4 hU4 ho2 hg2 hat2 q0 hi hz0 hz1 hz2
  go_wp2
  have hset := set3 (w := w4.setCell ⟨mb, 1, none⟩ (.slice (some ⟨g2, 0, none⟩) (s2.length + 1) cap2)) (rb := w.heap.size + 1) ((Below.heap_setCell _ _ _ _ hmr2).trans HR4.out) (.bool false) (.slice (some ⟨w4.heap.size, 0, none⟩) 1 1) (.slice (some ⟨w4.heap.size, 0, none⟩) 1 1)
  have hsu := set3_upd (w4.setCell ⟨mb, 1, none⟩ (.slice (some ⟨g2, 0, none⟩) (s2.length + 1) cap2)) (w.heap.size + 1) (.bool false) (.slice (some ⟨w4.heap.size, 0, none⟩) 1 1) (.slice (some ⟨w4.heap.size, 0, none⟩) 1 1)
  have hM5 := HM5.out
  have hU5 := HU5.out
  rw [hsl0] at hset hsu hM5 hU5
  have hM3l : ∀ k, (M k ∨ ((w1.alloc (.cells #[.slice A1 (typesOf g nm).length c1] 83)).heap.size ≤ k ∧ k < w2.heap.size)) → k < w3.heap.size := fun k hk => (HM3.out.low k hk).2
  have hw34 := HG2.out
  have hMr : ¬ ((M (w.heap.size + 1) ∨ ((w1.alloc (.cells #[.slice A1 (typesOf g nm).length c1] 83)).heap.size ≤ w.heap.size + 1 ∧ w.heap.size + 1 < w2.heap.size)) ∨ (w3.heap.size ≤ w.heap.size + 1 ∧ w.heap.size + 1 < w4.heap.size)) := by
    rintro ((h | h) | h)
    · have := (HM.out.low _ h).2; omega
    · have h9 : W.heap.size ≤ w.heap.size + 1 := Nat.le_trans HWW.out h.1
      omega
    · omega
  have hB2 : B ≤ w.heap.size + 1 := by omega
  generalize hw5 : ((((w4.setCell ⟨mb, 1, none⟩ (.slice (some ⟨g2, 0, none⟩) (s1.length + 1) cap2)).setCell ⟨w.heap.size + 1, 0, none⟩ (.bool false)).setCell ⟨w.heap.size + 1, 1, none⟩ (.slice (some ⟨w4.heap.size, 0, none⟩) 1 1)).setCell ⟨w.heap.size + 1, 2, none⟩ (.slice (some ⟨w4.heap.size, 0, none⟩) 1 1)) = w5 at *
  have hs5 : w5.heap.size = w4.heap.size := by subst hw5; simp [World.setCell]
  have hnew : (w5.alloc (.cells #[.int .i64 s1.length] 3)).heap[w4.heap.size]? = some (.cells #[.int .i64 s1.length] 3) := hs5 ▸ heap_alloc_new w5 _
  refine build_ret (rb := w.heap.size + 1) rfl ((Below.heap_alloc w5 _ _ (by omega)).trans hset) rfl ?_
  rw [HV.out]
  have hm6 := (hM5.upd hsu (fun k _ hk => by subst hk; exact ⟨hB2, hMr⟩)).pure (Upd.alloc1 (fun _ => False) w5 (.cells #[.int .i64 s1.length] 3))
  have hrow : intR.row (w5.alloc (.cells #[.int .i64 s1.length] 3)) (fun k => w.heap.size ≤ k ∧ ¬ ((M k ∨ ((w1.alloc (.cells #[.slice A1 (typesOf g nm).length c1] 83)).heap.size ≤ k ∧ k < w2.heap.size)) ∨ (w3.heap.size ≤ k ∧ k < w4.heap.size))) (some ⟨w4.heap.size, 0, none⟩) [(s1.length : Int)] := by
    refine Rp.row_of_block hnew ⟨by omega, ?_⟩ (Reps.single rfl rfl)
    rintro (h | h)
    · have := hM3l _ h; omega
    · omega
  refine ⟨some ⟨w4.heap.size, 0, none⟩, 1, some ⟨w4.heap.size, 0, none⟩, 1, _, _, _, _, rfl, hm6, ⟨fun k hk => .inl (.inl hk), fun k hk => ?_⟩, hrow, hrow, ?_⟩
  · rcases hk with hk | hk
    · rcases hg3.out.2 k hk with hk | hk
      · exact .inl hk
      · exact .inr ⟨hk.1, by simp; omega⟩
    · exact .inr ⟨by omega, by simp; omega⟩
  · have u1 : Upd (fun k => (M k ∨ ((w1.alloc (.cells #[.slice A1 (typesOf g nm).length c1] 83)).heap.size ≤ k ∧ k < w2.heap.size)) ∨ k = w.heap.size + 1) w3 (w5.alloc (.cells #[.int .i64 s1.length] 3)) :=
      Upd.trans (hU5.mono (fun _ _ h => .inl h)) ((hsu.mono (S' := fun k => (M k ∨ ((w1.alloc (.cells #[.slice A1 (typesOf g nm).length c1] 83)).heap.size ≤ k ∧ k < w2.heap.size)) ∨ k = w.heap.size + 1) (fun _ _ h => .inr h)).alloc _) (fun k _ h => h)
    refine Upd.trans hU3.out u1 (fun k hk h => ?_)
    rcases h with h | rfl
    · rcases hg3.out.2 k h with h | h
      · exact h
      · omega
    · omega
end Go.Proofs.YtofjodppljnlaaaGreatDoor
namespace Go.Proofs.YtofjodppljnlaaaGreatDoor
open Go.RowKit
set_option linter.unusedVariables false
set_option linter.unusedSimpArgs false
/-- What holds from part to part: the boxes are w.heap.size (the tree), + 1 (the result), + 2 (what is reckoned). -/
def LoopRel (C : List Ex → St → Part → St × Part) (tgt : St × Part) (w wr : World) (B : Nat) (M : Nat → Prop) (mb : Nat) (b0 b1 b2 : Value) (s0 : St) (rest : List Ex) (n : Nat) : Prop :=
  ∃ M' tv fv vs s p Af cf Al cl, C rest s p = tgt ∧ Bd s0 s p n ∧ s.2.length = s.1.length ∧ (∀ x ∈ s.2, x.length + 80000 * Ex.cnts rest ≤ 1000000000) ∧ Mach wr B M' mb s.1 s.2 b0 b1 b2 tv fv vs ∧
    (∀ k, M k → M' k) ∧ (∀ k, M' k → M k ∨ w.heap.size + 3 ≤ k) ∧ wr.heap[w.heap.size + 2]? = some (.cells #[.bool p.none, .slice Af p.first.length cf, .slice Al p.last.length cl] 221 (0, 0)) ∧
    wr.heap[w.heap.size + 1]? = some (.cells #[.bool false, .slice none 0 0, .slice none 0 0] 221 (0, 0)) ∧ intR.row wr (fun k => w.heap.size + 3 ≤ k ∧ ¬ M' k) Af p.first ∧ intR.row wr (fun k => w.heap.size + 3 ≤ k ∧ ¬ M' k) Al p.last ∧ Upd M w wr
theorem Bd.start (s : St) (b : Bool) : Bd s s ⟨b, [], []⟩ 0 := ⟨id, Nat.le_refl _, by simp, by simp, by simp, by simp, by simp⟩
/-- A struct of three cells laid open. -/
theorem cells3 {w : World} {b : Nat} {x0 x1 x2 : Value} {t : TypeId} (h : w.heap[b]? = some (.cells #[x0, x1, x2] t (0, 0))) :
    (w.cell? ⟨b, 0, none⟩ = some x0 ∧ w.cell? ⟨b, 1, none⟩ = some x1 ∧ w.cell? ⟨b, 2, none⟩ = some x2) ∧ w.frozen? ⟨b, 0, none⟩ = false ∧ w.frozen? ⟨b, 1, none⟩ = false ∧ w.frozen? ⟨b, 2, none⟩ = false ∧ b < w.heap.size :=
  ⟨⟨by unfold World.cell?; simp only [h]; rfl, by unfold World.cell?; simp only [h]; rfl, by unfold World.cell?; simp only [h]; rfl⟩, by simp [World.frozen?, h], by simp [World.frozen?, h], by simp [World.frozen?, h], (Array.getElem?_eq_some_iff.1 h).1⟩
theorem LoopRel.done {C : List Ex → St → Part → St × Part} {tgt : St × Part} {w wr : World} {B : Nat} {M : Nat → Prop} {mb : Nat} {b0 b1 b2 : Value} {s0 : St} {n : Nat} (h : LoopRel C tgt w wr B M mb b0 b1 b2 s0 [] n) (hB : B ≤ w.heap.size) (hMl : ∀ k, M k → k < w.heap.size) (hC : ∀ s p, C [] s p = (s, p)) :
    ∃ Af cf Al cl, wr.heap[w.heap.size + 2]? = some (.cells #[.bool tgt.2.none, .slice Af tgt.2.first.length cf, .slice Al tgt.2.last.length cl] 221 (0, 0)) ∧
      wr.heap[w.heap.size + 1]? = some (.cells #[.bool false, .slice none 0 0, .slice none 0 0] 221 (0, 0)) ∧
      ∀ w', w' = (((wr.setCell ⟨w.heap.size + 1, 0, none⟩ (.bool tgt.2.none)).setCell ⟨w.heap.size + 1, 1, none⟩ (.slice Af tgt.2.first.length cf)).setCell ⟨w.heap.size + 1, 2, none⟩ (.slice Al tgt.2.last.length cl)) →
        w'.heap[w.heap.size + 1]? = some (.cells #[.bool tgt.2.none, .slice Af tgt.2.first.length cf, .slice Al tgt.2.last.length cl] 221 (0, 0)) ∧
        BuildPost w w' B M mb b0 b1 b2 tgt.1 tgt.2 (.returned (.agg #[.bool tgt.2.none, .slice Af tgt.2.first.length cf, .slice Al tgt.2.last.length cl])) := by
  obtain ⟨M', tv, fv, vs, s, p, Af, cf, Al, cl, hc, hbd, hlen, hfb, hm, hM1, hM2, hpb, hrb, hf, hl, hu⟩ := h
  rw [hC] at hc
  subst hc
  refine ⟨Af, cf, Al, cl, hpb, hrb, ?_⟩
  rintro w' rfl
  have hsu := set3_upd wr (w.heap.size + 1) (.bool p.none) (.slice Af p.first.length cf) (.slice Al p.last.length cl)
  have hsz : ((((wr.setCell ⟨w.heap.size + 1, 0, none⟩ (.bool p.none)).setCell ⟨w.heap.size + 1, 1, none⟩ (.slice Af p.first.length cf)).setCell ⟨w.heap.size + 1, 2, none⟩ (.slice Al p.last.length cl))).heap.size = wr.heap.size := by simp [World.setCell]
  refine ⟨set3 hrb _ _ _, Af, cf, Al, cl, M', tv, fv, vs, rfl, hm.upd hsu (fun k _ hk => ?_), ⟨hM1, fun k hk => ?_⟩, ?_, ?_, Upd.trans hu hsu (fun k hk he => by omega)⟩
  · subst hk
    refine ⟨by omega, fun h => ?_⟩
    rcases hM2 _ h with h | h
    · have := hMl _ h; omega
    · omega
  · rcases hM2 k hk with h | h
    · exact .inl h
    · exact .inr ⟨by omega, by rw [hsz]; exact (hm.low k hk).2⟩
  · exact Rp.row_fp (Rp.row_upd hf hsu (fun k _ hk he => by omega)) (fun k hk => ⟨by omega, hk.2⟩)
  · exact Rp.row_fp (Rp.row_upd hl hsu (fun k _ hk he => by omega)) (fun k hk => ⟨by omega, hk.2⟩)
set_option maxRecDepth 100000 in
set_option maxHeartbeats 4000000 in
theorem build_alt (nm : ByteArray) (l : List Ex) (HI : ∀ x ∈ l, BuildC x) (hcnt : Ex.cnts l ≤ 199) : BuildC (.mk 3 nm l) := by
  intro w B M F G mb s b0 b1 b2 tv fv vs A Ag c cg g hsl0 hm hr hF hg hG hgl hs hfb
  obtain ⟨s1, s2⟩ := s
  have HII := As.mk HI
  have HM := As.mk hm
  have HR := As.mk hr
  have HF := As.mk hF
  have HG := As.mk hg
  have HGB := As.mk hG
  simp only at hsl0
  have hlb := (hm.low mb hm.mbM)
  have hc1 : (Ex.mk 3 nm l).cnt = 1 + Ex.cnts l := by simp [Ex.cnt]
  rw [hc1] at hs hfb
  simp only at hs hfb
  have hll : l.length ≤ 199 := by
    have h : l.length ≤ Ex.cnts l := by
      clear HII HI HR hr hc1 hs hfb hcnt
      induction l with
      | nil => simp
      | cons x r ih => have := x.cnt_pos; simp only [Ex.cnts, List.length_cons]; omega
    omega
  have HV := As.mk (show glu g (.mk 3 nm l) (s1, s2) = gluAlt g l (s1, s2) ⟨false, [], []⟩ by rw [glu]; rfl)
  have HFB := As.mk (show ∀ x ∈ s2, x.length + 80000 * Ex.cnts l ≤ 1000000000 from fun x hx => by have := hfb x hx; omega)
  have HS := As.mk hsl0
  clear hm hr hF hg hG hfb HI hc1 hsl0
  show Calls Tryz.prog 165 #[.pointer (some ⟨mb, 0, none⟩), .agg #[.int .i64 3, .string nm, .slice A l.length c], .slice Ag g.length cg] w _
  go_enter Tryz.func165, Tryz.ntmps165
  go_wp2
  go_loopg [62] l.length (fun gg i wr => ∃ k : Nat, k + gg = l.length ∧ i = .int .i64 k ∧ As (LoopRel (gluAlt g) (gluAlt g l (s1, s2) ⟨false, [], []⟩) w wr B M mb b0 b1 b2 (s1, s2) (l.drop k) (Ex.cnts (l.take k))))
  case atStart =>
    refine ⟨0, by omega, rfl, ⟨M, tv, fv, vs, (s1, s2), ⟨false, [], []⟩, none, 0, none, 0, rfl, Bd.start _ _, HS.out, HFB.out, HM.out.pure (((Upd.alloc1 _ _ _).alloc _).alloc _), fun _ h => h, fun _ h => .inl h, ?_, ?_, .inl rfl, .inl rfl, ((Upd.alloc1 _ _ _).alloc _).alloc _⟩⟩
    · have := heap_alloc_new ((w.alloc (.cells #[.int .i64 3, .string nm, .slice A l.length c] 92)).alloc (.cells #[.bool false, .slice none 0 0, .slice none 0 0] 221)) (.cells #[.bool false, .slice none 0 0, .slice none 0 0] 221)
      simpa using this
    · exact (Below.heap_alloc _ _ _ (by simp)).trans (heap_alloc2_new w _ _)
  case round =>
    obtain ⟨k, hk, rfl, HC⟩ := hrel
    by_cases hlt : k < l.length
    · obtain ⟨x, hx⟩ : ∃ x, l[k]? = some x := ⟨_, List.getElem?_eq_getElem hlt⟩
      obtain ⟨M', tv', fv', vs', s, ⟨pn, pf, pl⟩, Af, cf, Al, cl, hc, hbd, hlen, hfb2, hm2, hM1, hM2, hpb, hrb, hf2, hl2, hu2⟩ := HC.out
      have hmM := fun k hk => (HM.out.low k hk)
      have hrw := Rp.row_upd HR.out hu2 (fun k _ hF hM => by have := HF.out k hF; have := (hmM k hM).1; omega)
      have hgw := Rp.row_upd HG.out hu2 (fun k _ hF hM => by have := HGB.out k hF; have := (hmM k hM).1; omega)
      obtain ⟨b, o, Ax, cx, rfl, hFb, hbl, d0, d1, d2, hle1, hrow1⟩ := ex_at hrw hx
      obtain ⟨g1, rfl⟩ : ∃ m, gk = m + 1 := ⟨gk - 1, by omega⟩
      have hxm := List.mem_of_getElem? hx
      have hdx := drop_cons' hx
      have hcx : Ex.cnts (l.take (k + 1)) = Ex.cnts (l.take k) + x.cnt := Ex.cnts_succ hx
      have hsum : Ex.cnts (l.take k) + Ex.cnts (l.drop k) = Ex.cnts l := by rw [← Ex.cnts_append, List.take_append_drop]
      have hdc : Ex.cnts (l.drop k) = x.cnt + Ex.cnts (l.drop (k + 1)) := by rw [hdx]; simp [Ex.cnts]
      have hbhi := hbd.hi
      have hbfl := hbd.fl
      have hbll := hbd.ll
      simp only at hbhi hbfl hbll
      have HBC := As.mk (fun (wz : World) (hz : Pure wr wz) => HII.out x hxm wz B M' F G mb s b0 b1 b2 tv' fv' vs' Ax Ag cx cg g hlen (hm2.pure hz) (Rp.row_pure hrow1 hz) HF.out (Rp.row_pure hgw hz) HGB.out hgl (by omega) (fun y hy => by have := hfb2 y hy; omega))
      have hql := glu_bd g x s
      have hqfl := hql.fl
      have hqll := hql.ll
      have HBD := As.mk hbd
      have HQB := As.mk hql
      have HLN := As.mk hlen
      have HFB2 := As.mk hfb2
      have HCC := As.mk hc
      have HM1 := As.mk hM1
      have HM2 := As.mk hM2
      have HPB := As.mk hpb
      have HRB := As.mk hrb
      have HF2 := As.mk hf2
      have HL2 := As.mk hl2
      have HU2 := As.mk hu2
      have HLOW := As.mk (fun k hk => hm2.low k hk)
      have HK := As.mk hk
      have HDX := As.mk hdx
      have HCX := As.mk hcx
      have hprl := (Array.getElem?_eq_some_iff.1 hpb).1
      clear hbd hql hlen hfb2 hc hM1 hM2 hpb hrb hf2 hl2 hu2 hm2 hrw hgw hrow1 hx hk hdx hcx HC hmM
      go_wp2_with (go_at_call 165; refine (HBC.out _ (Upd.alloc1 _ _ _)).mono ?_; rintro e w1 ⟨Aq, cq, Ar, cr, M1, tv1, fv1, vs1, rfl, hm1, hg1, hqf, hql, hu1⟩; have HMM := As.mk hm1; have HGG := As.mk hg1; have HQF := As.mk hqf; have HQL := As.mk hql; have HU1 := As.mk hu1; clear hm1 hg1 hqf hql hu1)
      cases pn
      · generalize hW : w1.alloc (.cells #[.bool (glu g x s).2.none, .slice Aq (glu g x s).2.first.length cq, .slice Ar (glu g x s).2.last.length cr] 221) = W
        have HPW1 : As (Pure w1 W.drew) := ⟨hW ▸ (Upd.alloc1 (fun _ => False) w1 _).drew⟩
        have hWs : W.drew.heap.size = w1.heap.size + 1 := by subst hW; simp
        have hqb : W.drew.heap[w1.heap.size]? = some (.cells #[.bool (glu g x s).2.none, .slice Aq (glu g x s).2.first.length cq, .slice Ar (glu g x s).2.last.length cr] 221 (0, 0)) := by subst hW; exact heap_alloc_new w1 _
        clear hW
        have hlow0 := HM.out.low mb HM.out.mbM
        have hw01 := HU2.out.size
        have hw12 : wr.heap.size + 1 ≤ w1.heap.size := by have := HU1.out.size; simpa using this
        have hnpM : ¬ M' (w.heap.size + 2) := fun h => by rcases HM2.out _ h with h | h; (have := (HM.out.low _ h).2; omega); omega
        have hnrM : ¬ M' (w.heap.size + 1) := fun h => by rcases HM2.out _ h with h | h; (have := (HM.out.low _ h).2; omega); omega
        have HU01 : As (Upd M' wr W.drew) := ⟨Upd.trans (Upd.trans (Upd.alloc1 M' wr _) HU1.out (fun _ _ h => h)) HPW1.out (fun _ _ h => h.elim)⟩
        have hpb : W.drew.heap[w.heap.size + 2]? = some (.cells #[.bool false, .slice Af pf.length cf, .slice Al pl.length cl] 221 (0, 0)) := (HU01.out.block _ hprl hnpM).trans HPB.out
        have hrb : W.drew.heap[w.heap.size + 1]? = some (.cells #[.bool false, .slice none 0 0, .slice none 0 0] 221 (0, 0)) := (HU01.out.block _ (by omega) hnrM).trans HRB.out
        have HPf := As.mk (Rp.row_upd HF2.out HU01.out (fun _ _ h => h.2))
        have HPl := As.mk (Rp.row_upd HL2.out HU01.out (fun _ _ h => h.2))
        have HQf := As.mk (Rp.row_pure HQF.out HPW1.out)
        have HQl := As.mk (Rp.row_pure HQL.out HPW1.out)
        have HM12 : As (∀ q, M1 q → M q ∨ w.heap.size + 3 ≤ q) := ⟨fun q hq => by
          rcases HGG.out.2 q hq with h | h
          · exact HM2.out q h
          · have h1 := h.1
            simp at h1
            omega⟩
        have HPBM : As (¬ M1 (w.heap.size + 2)) := ⟨fun h => by rcases HM12.out _ h with h | h; (have := (HM.out.low _ h).2; omega); omega⟩
        have HPB0 := As.mk hpb
        have HRB0 := As.mk hrb
        obtain ⟨⟨pc0, pc1, pc2⟩, pg0, pg1, pg2, pl3⟩ := cells3 hpb
        obtain ⟨⟨qc0, qc1, qc2⟩, _, _, _, ql3⟩ := cells3 hqb
        clear hpb hrb hqb
        have HSK : As (∀ v, Pure W.drew v → v.cell? ⟨w.heap.size + 2, 0, none⟩ = some (.bool false) ∧ v.cell? ⟨w.heap.size + 2, 1, none⟩ = some (.slice Af pf.length cf) ∧ v.cell? ⟨w.heap.size + 2, 2, none⟩ = some (.slice Al pl.length cl) ∧ v.cell? ⟨w1.heap.size, 0, none⟩ = some (.bool (glu g x s).2.none) ∧ v.cell? ⟨w1.heap.size, 1, none⟩ = some (.slice Aq (glu g x s).2.first.length cq) ∧ v.cell? ⟨w1.heap.size, 2, none⟩ = some (.slice Ar (glu g x s).2.last.length cr) ∧ v.frozen? ⟨w.heap.size + 2, 0, none⟩ = false ∧ v.frozen? ⟨w.heap.size + 2, 1, none⟩ = false ∧ v.frozen? ⟨w.heap.size + 2, 2, none⟩ = false) := ⟨fun v hv => ⟨(hv.cell pl3 (fun h => h)).trans pc0, (hv.cell pl3 (fun h => h)).trans pc1, (hv.cell pl3 (fun h => h)).trans pc2, (hv.cell ql3 (fun h => h)).trans qc0, (hv.cell ql3 (fun h => h)).trans qc1, (hv.cell ql3 (fun h => h)).trans qc2, (hv.frozen pl3 (fun h => h)).trans pg0, (hv.frozen pl3 (fun h => h)).trans pg1, (hv.frozen pl3 (fun h => h)).trans pg2⟩⟩
        clear pc0 pc1 pc2 qc0 qc1 qc2 pg0 pg1 pg2
        refine wp_region_T (P := Tryz.prog) (fun v => v.cell? ⟨w.heap.size + 2, 0, none⟩ = some (.bool false) ∧ v.cell? ⟨w.heap.size + 2, 1, none⟩ = some (.slice Af pf.length cf) ∧ v.cell? ⟨w.heap.size + 2, 2, none⟩ = some (.slice Al pl.length cl) ∧ v.cell? ⟨w1.heap.size, 0, none⟩ = some (.bool (glu g x s).2.none) ∧ v.cell? ⟨w1.heap.size, 1, none⟩ = some (.slice Aq (glu g x s).2.first.length cq) ∧ v.cell? ⟨w1.heap.size, 2, none⟩ = some (.slice Ar (glu g x s).2.last.length cr) ∧ v.frozen? ⟨w.heap.size + 2, 0, none⟩ = false ∧ v.frozen? ⟨w.heap.size + 2, 1, none⟩ = false ∧ v.frozen? ⟨w.heap.size + 2, 2, none⟩ = false) 19 (by kernel_rfl) ?_ (fun hHeld => ?_)
        · first | exact HSK.out _ HP5.out | exact HSK.out _ HP4.out | exact HSK.out _ HP3.out | exact HSK.out _ HP2.out | exact HSK.out _ (Upd.refl _ _)
        refine zT 0 ?_
        refine zT 1 ?_
        (try simp only [Act.put, sA, sB, sC])
        refine zT 2 ?_
        refine zT 3 ?_
        refine zT 4 ?_
        refine zT 5 ?_
        (try simp only [Act.put, sA, sB, sC])
        refine zT 6 ?_
        refine zT 7 ?_
        refine zT 9 ?_
        refine zT 10 ?_
        (try simp only [Act.put, sA, sB, sC])
        refine zT 12 ?_
        refine zT 13 ?_
        refine zT 15 ?_
        refine zT 16 ?_
        (try simp only [Act.put, sA, sB, sC])
        refine oT 8 (fun K hK => ?_)
        go_simp
        (go_at_call 123; refine (Clone_calls HPf.out (by omega)).mono ?_; rintro e w2 ⟨v2, rfl, ho2, hu2⟩; obtain ⟨A2, c2, rfl, _, _⟩ := Rp.own_slice ho2; have HO2 := As.mk ho2; have HP2 := As.mk (show Pure W.drew w2 from hu2); have HQ2 := As.mk (Rp.row_pure HQf.out HP2.out); clear ho2 hu2)
        refine hK.out _ _ (fun _ => by first | exact HSK.out _ HP5.out | exact HSK.out _ HP4.out | exact HSK.out _ HP3.out | exact HSK.out _ HP2.out | exact HSK.out _ (Upd.refl _ _)) (fun hHeld => ?_)
        replace hHeld := hHeld (by decide)
        clear hK K
        (try simp only [Act.put, sA, sB, sC])
        refine oT 11 (fun K hK => ?_)
        refine Rp.step_append_row intR (c := cq) HO2.out (Rp.row'_of HQ2.out (fun _ _ h => h)) (Fz := fun _ => False) (fun _ h => h.elim) (by rfl) _ _ 83 (.int .i64 0) 8 (by rfl) Tryz.underlying83 int_info rfl (by decide) (by decide) (by rfl) (by rfl) (by omega) ?_; intro v3 w3 ho3 hu3 hat3; obtain ⟨A3, c3, rfl, _, _⟩ := Rp.own_slice ho3; have HP3 := As.mk (show Pure W.drew w3 from Upd.trans HP2.out hu3 (fun k hk h => by have := (Rp.own_block_lt HO2.out k h).1; omega)); have HO3 := As.mk (int_own_fp' (G := fun k => W.drew.heap.size ≤ k) ho3 (fun k hk => by rcases hat3 with h | ⟨b, hb, hle⟩; exact (Rp.own_block_lt HO2.out k (h ▸ hk)).1; rw [hb] at hk; injection hk with hk; have := HP2.out.size; omega)); clear ho3 hu3 hat3
        refine hK.out _ _ (fun _ => by first | exact HSK.out _ HP5.out | exact HSK.out _ HP4.out | exact HSK.out _ HP3.out | exact HSK.out _ HP2.out | exact HSK.out _ (Upd.refl _ _)) (fun hHeld => ?_)
        replace hHeld := hHeld (by decide)
        clear hK K
        (try simp only [Act.put, sA, sB, sC])
        refine oT 14 (fun K hK => ?_)
        go_simp
        (go_at_call 123; refine (Clone_calls (Rp.row_pure HPl.out HP3.out) (by omega)).mono ?_; rintro e w4 ⟨v4, rfl, ho4, hu4⟩; obtain ⟨A4, c4, rfl, _, _⟩ := Rp.own_slice ho4; have HO4 := As.mk ho4; have HU4 := As.mk hu4; have HP4 := As.mk (show Pure W.drew w4 from HP3.out.trans hu4 (fun _ _ h => h)); have HQ4 := As.mk (Rp.row_pure HQl.out HP4.out); clear ho4 hu4)
        refine hK.out _ _ (fun _ => by first | exact HSK.out _ HP5.out | exact HSK.out _ HP4.out | exact HSK.out _ HP3.out | exact HSK.out _ HP2.out | exact HSK.out _ (Upd.refl _ _)) (fun hHeld => ?_)
        replace hHeld := hHeld (by decide)
        clear hK K
        (try simp only [Act.put, sA, sB, sC])
        refine oT 17 (fun K hK => ?_)
        refine Rp.step_append_row intR (c := cr) HO4.out (Rp.row'_of HQ4.out (fun _ _ h => h)) (Fz := fun _ => False) (fun _ h => h.elim) (by rfl) _ _ 83 (.int .i64 0) 8 (by rfl) Tryz.underlying83 int_info rfl (by decide) (by decide) (by rfl) (by rfl) (by omega) ?_; intro v5 w5 ho5 hu5 hat5; obtain ⟨A5, c5, rfl, _, _⟩ := Rp.own_slice ho5; have HP5 := As.mk (show Pure W.drew w5 from Upd.trans HP4.out hu5 (fun k hk h => by have := (Rp.own_block_lt HO4.out k h).1; have := HP3.out.size; omega)); have HO5 := As.mk (int_own_fp' (G := fun k => w3.heap.size ≤ k) ho5 (fun k hk => by rcases hat5 with h | ⟨b, hb, hle⟩; exact (Rp.own_block_lt HO4.out k (h ▸ hk)).1; rw [hb] at hk; injection hk with hk; have := HU4.out.size; omega)); have HO6 := As.mk (Rp.own_upd (Rp.own_upd (int_own_fp HO3.out) HU4.out (fun _ _ _ h => h)) hu5 (fun k _ hk he => by have h1 := (Rp.own_block_lt HO4.out k he).1; have h2 := (Rp.own_block_lt HO3.out k hk).2; omega)); have HS35 := As.mk (Nat.le_trans HU4.out.size hu5.size); clear ho5 hu5 hat5
        refine hK.out _ _ (fun _ => by first | exact HSK.out _ HP5.out | exact HSK.out _ HP4.out | exact HSK.out _ HP3.out | exact HSK.out _ HP2.out | exact HSK.out _ (Upd.refl _ _)) (fun hHeld => ?_)
        replace hHeld := hHeld (by decide)
        clear hK K
        (try simp only [Act.put, sA, sB, sC])
        refine zT 18 ?_
        refine oT 19 (fun K hK => ?_)
        go_simp
        refine hK.out _ _ (fun h => absurd rfl h) (fun hHeld => ?_)
        clear hK K
        (try simp only [Act.put, sA, sB, sC])
        refine wpAnyT_done (by kernel_rfl) ?_ _
        have HPW5 : As (Pure w1 w5) := ⟨HPW1.out.trans HP5.out (fun _ _ h => h)⟩
        have hw5 := HPW5.out.size
        have hw35 := HS35.out
        have hw23 := HP3.out.size
        have HPB5 : As (w5.heap[w.heap.size + 2]? = some (.cells #[.bool false, .slice Af pf.length cf, .slice Al pl.length cl] 221 (0, 0))) := ⟨(HP5.out.block _ pl3 (fun h => h)).trans HPB0.out⟩
        have HRB5 : As (w5.heap[w.heap.size + 1]? = some (.cells #[.bool false, .slice none 0 0, .slice none 0 0] 221 (0, 0))) := ⟨(HP5.out.block _ (by omega) (fun h => h)).trans HRB0.out⟩
        obtain ⟨A3', c3', e3, _, hr3⟩ := Rp.own_slice HO6.out
        simp at e3
        obtain ⟨rfl, rfl⟩ := e3
        obtain ⟨A5', c5', e5, _, hr5⟩ := Rp.own_slice (int_own_fp HO5.out)
        simp at e5
        obtain ⟨rfl, rfl⟩ := e5
        have HRW3 := As.mk hr3
        have HRW5 := As.mk hr5
        replace HO5 := As.mk (And.intro (fun q hq => (Rp.own_block_lt HO5.out q hq).1) HO5.out)
        have HFIN : As (Upd M w (((w5.setCell ⟨w.heap.size + 2, 0, none⟩ (.bool (glu g x s).2.none)).setCell ⟨w.heap.size + 2, 1, none⟩ (.slice A3 (pf.length + (glu g x s).2.first.length) c3)).setCell ⟨w.heap.size + 2, 2, none⟩ (.slice A5 (pl.length + (glu g x s).2.last.length) c5))) := ⟨by
          have hu := (Upd.trans (Upd.trans (HU01.out.mono (S' := fun k => M' k ∨ k = w.heap.size + 2) (fun _ _ h => .inl h)) HP5.out (fun _ _ h => h.elim)) ((set3_upd w5 (w.heap.size + 2) (.bool (glu g x s).2.none) (.slice A3 (pf.length + (glu g x s).2.first.length) c3) (.slice A5 (pl.length + (glu g x s).2.last.length) c5)).mono (S' := fun k => M' k ∨ k = w.heap.size + 2) (fun _ _ h => .inr h)) (S := fun k => M' k ∨ k = w.heap.size + 2) (fun _ _ h => h))
          refine Upd.trans HU2.out hu (fun q hq h => ?_)
          rcases h with h | rfl
          · rcases HM2.out q h with h | h
            · exact h
            · omega
          · omega⟩
        clear hr3 hr5
        go_wp2
        go_roundg g1
        case measure => omega
        case rel =>
          refine ⟨k + 1, by have := HK.out; omega, by go_num, ⟨M1, tv1, fv1, vs1, (glu g x s).1, ⟨false || (glu g x s).2.none, pf ++ (glu g x s).2.first, pl ++ (glu g x s).2.last⟩, A3, c3, A5, c5, ?_, ?_, HQB.out.len HLN.out, ?_, ?_, fun q hq => HGG.out.1 q (HM1.out q hq), ?_, ?_, ?_, ?_, ?_, ?_⟩⟩
          · rw [← HCC.out, HDX.out, gluAlt]
          · rw [HCX.out]
            exact Bd.next HBD.out HQB.out (glu g x s).1 rfl rfl _ ⟨fun a ha => List.mem_append.1 ha, fun a ha => List.mem_append.1 ha, by simp, by simp⟩
          · intro y hy
            have := glu_fb g x s (1000000000 - 80000 * Ex.cnts (l.drop k)) (fun z hz => by have := HFB2.out z hz; omega) (by omega) y hy
            omega
          · exact (HMM.out.pure HPW5.out).upd (set3_upd w5 (w.heap.size + 2) _ _ _) (fun q _ hq => by subst hq; exact ⟨by have := HM.out.low mb HM.out.mbM; omega, HPBM.out⟩)
          · exact HM12.out
          · have := set3 HPB5.out (.bool (glu g x s).2.none) (.slice A3 (pf.length + (glu g x s).2.first.length) c3) (.slice A5 (pl.length + (glu g x s).2.last.length) c5)
            simp only [List.length_append, Bool.false_or, Bool.true_or]
            exact this
          · exact ((set3_upd w5 (w.heap.size + 2) _ _ _).block _ (by have := HPW5.out.size; omega) (by omega)).trans HRB5.out
          · refine Rp.row_fp (Rp.row_upd (HRW3.out) (set3_upd w5 (w.heap.size + 2) _ _ _) (fun q _ hq he => ?_)) (fun q hq => ?_)
            · have := (Rp.own_block_lt HO3.out q hq).1; omega
            · have h1 := (Rp.own_block_lt HO3.out q hq).1
              exact ⟨by omega, fun hM => by have := (HMM.out.low q hM).2; omega⟩
          · refine Rp.row_fp (Rp.row_upd (HRW5.out) (set3_upd w5 (w.heap.size + 2) _ _ _) (fun q _ hq he => ?_)) (fun q hq => ?_)
            · have := HO5.out.1 q hq; omega
            · have h1 := HO5.out.1 q hq
              exact ⟨by omega, fun hM => by have := (HMM.out.low q hM).2; omega⟩
          · exact HFIN.out
      · generalize hW : w1.alloc (.cells #[.bool (glu g x s).2.none, .slice Aq (glu g x s).2.first.length cq, .slice Ar (glu g x s).2.last.length cr] 221) = W
        have HPW1 : As (Pure w1 W.drew) := ⟨hW ▸ (Upd.alloc1 (fun _ => False) w1 _).drew⟩
        have hWs : W.drew.heap.size = w1.heap.size + 1 := by subst hW; simp
        have hqb : W.drew.heap[w1.heap.size]? = some (.cells #[.bool (glu g x s).2.none, .slice Aq (glu g x s).2.first.length cq, .slice Ar (glu g x s).2.last.length cr] 221 (0, 0)) := by subst hW; exact heap_alloc_new w1 _
        clear hW
        have hlow0 := HM.out.low mb HM.out.mbM
        have hw01 := HU2.out.size
        have hw12 : wr.heap.size + 1 ≤ w1.heap.size := by have := HU1.out.size; simpa using this
        have hnpM : ¬ M' (w.heap.size + 2) := fun h => by rcases HM2.out _ h with h | h; (have := (HM.out.low _ h).2; omega); omega
        have hnrM : ¬ M' (w.heap.size + 1) := fun h => by rcases HM2.out _ h with h | h; (have := (HM.out.low _ h).2; omega); omega
        have HU01 : As (Upd M' wr W.drew) := ⟨Upd.trans (Upd.trans (Upd.alloc1 M' wr _) HU1.out (fun _ _ h => h)) HPW1.out (fun _ _ h => h.elim)⟩
        have hpb : W.drew.heap[w.heap.size + 2]? = some (.cells #[.bool true, .slice Af pf.length cf, .slice Al pl.length cl] 221 (0, 0)) := (HU01.out.block _ hprl hnpM).trans HPB.out
        have hrb : W.drew.heap[w.heap.size + 1]? = some (.cells #[.bool false, .slice none 0 0, .slice none 0 0] 221 (0, 0)) := (HU01.out.block _ (by omega) hnrM).trans HRB.out
        have HPf := As.mk (Rp.row_upd HF2.out HU01.out (fun _ _ h => h.2))
        have HPl := As.mk (Rp.row_upd HL2.out HU01.out (fun _ _ h => h.2))
        have HQf := As.mk (Rp.row_pure HQF.out HPW1.out)
        have HQl := As.mk (Rp.row_pure HQL.out HPW1.out)
        have HM12 : As (∀ q, M1 q → M q ∨ w.heap.size + 3 ≤ q) := ⟨fun q hq => by
          rcases HGG.out.2 q hq with h | h
          · exact HM2.out q h
          · have h1 := h.1
            simp at h1
            omega⟩
        have HPBM : As (¬ M1 (w.heap.size + 2)) := ⟨fun h => by rcases HM12.out _ h with h | h; (have := (HM.out.low _ h).2; omega); omega⟩
        have HPB0 := As.mk hpb
        have HRB0 := As.mk hrb
        obtain ⟨⟨pc0, pc1, pc2⟩, pg0, pg1, pg2, pl3⟩ := cells3 hpb
        obtain ⟨⟨qc0, qc1, qc2⟩, _, _, _, ql3⟩ := cells3 hqb
        clear hpb hrb hqb
        have HSK : As (∀ v, Pure W.drew v → v.cell? ⟨w.heap.size + 2, 0, none⟩ = some (.bool true) ∧ v.cell? ⟨w.heap.size + 2, 1, none⟩ = some (.slice Af pf.length cf) ∧ v.cell? ⟨w.heap.size + 2, 2, none⟩ = some (.slice Al pl.length cl) ∧ v.cell? ⟨w1.heap.size, 0, none⟩ = some (.bool (glu g x s).2.none) ∧ v.cell? ⟨w1.heap.size, 1, none⟩ = some (.slice Aq (glu g x s).2.first.length cq) ∧ v.cell? ⟨w1.heap.size, 2, none⟩ = some (.slice Ar (glu g x s).2.last.length cr) ∧ v.frozen? ⟨w.heap.size + 2, 0, none⟩ = false ∧ v.frozen? ⟨w.heap.size + 2, 1, none⟩ = false ∧ v.frozen? ⟨w.heap.size + 2, 2, none⟩ = false) := ⟨fun v hv => ⟨(hv.cell pl3 (fun h => h)).trans pc0, (hv.cell pl3 (fun h => h)).trans pc1, (hv.cell pl3 (fun h => h)).trans pc2, (hv.cell ql3 (fun h => h)).trans qc0, (hv.cell ql3 (fun h => h)).trans qc1, (hv.cell ql3 (fun h => h)).trans qc2, (hv.frozen pl3 (fun h => h)).trans pg0, (hv.frozen pl3 (fun h => h)).trans pg1, (hv.frozen pl3 (fun h => h)).trans pg2⟩⟩
        clear pc0 pc1 pc2 qc0 qc1 qc2 pg0 pg1 pg2
        refine wp_region_T (P := Tryz.prog) (fun v => v.cell? ⟨w.heap.size + 2, 0, none⟩ = some (.bool true) ∧ v.cell? ⟨w.heap.size + 2, 1, none⟩ = some (.slice Af pf.length cf) ∧ v.cell? ⟨w.heap.size + 2, 2, none⟩ = some (.slice Al pl.length cl) ∧ v.cell? ⟨w1.heap.size, 0, none⟩ = some (.bool (glu g x s).2.none) ∧ v.cell? ⟨w1.heap.size, 1, none⟩ = some (.slice Aq (glu g x s).2.first.length cq) ∧ v.cell? ⟨w1.heap.size, 2, none⟩ = some (.slice Ar (glu g x s).2.last.length cr) ∧ v.frozen? ⟨w.heap.size + 2, 0, none⟩ = false ∧ v.frozen? ⟨w.heap.size + 2, 1, none⟩ = false ∧ v.frozen? ⟨w.heap.size + 2, 2, none⟩ = false) 19 (by kernel_rfl) ?_ (fun hHeld => ?_)
        · first | exact HSK.out _ HP5.out | exact HSK.out _ HP4.out | exact HSK.out _ HP3.out | exact HSK.out _ HP2.out | exact HSK.out _ (Upd.refl _ _)
        refine zT 0 ?_
        refine zT 1 ?_
        (try simp only [Act.put, sA, sB, sC])
        refine zT 2 ?_
        refine wpAnyT_take (i := 3) (oi := { dst := (some 73), op := (Go.Op.fieldAddr 221 (Go.Operand.tmp 11) 0), type := 0, pos := "reg.go:84", after := #[{ on := 2, ground := Go.Ground.guard }], guard := (some (2, false)) }) (v := undef) rfl (by kernel_rfl) (by kernel_rfl) (by kernel_rfl) (by kernel_rfl) (fun _ _ _ h => h) (Or.inr ⟨by rfl, rfl⟩) (by assumption) ?_
        (try simp only [Act.put, sA, sB, sC])
        refine wpAnyT_take (i := 4) (oi := { dst := (some 74), op := (Go.Op.load 4 (Go.Operand.tmp 73)), type := 4, pos := "reg.go:84", after := #[{ on := 3, ground := Go.Ground.data }, { on := 2, ground := Go.Ground.guard }], guard := (some (2, false)) }) (v := undef) rfl (by kernel_rfl) (by kernel_rfl) (by kernel_rfl) (by kernel_rfl) (fun _ _ _ h => h) (Or.inr ⟨by rfl, rfl⟩) (by assumption) ?_
        (try simp only [Act.put, sA, sB, sC])
        refine zT 5 ?_
        (try simp only [Act.put, sA, sB, sC])
        refine zT 6 ?_
        refine zT 7 ?_
        refine zT 9 ?_
        refine zT 10 ?_
        (try simp only [Act.put, sA, sB, sC])
        refine zT 12 ?_
        refine zT 13 ?_
        refine zT 15 ?_
        refine zT 16 ?_
        (try simp only [Act.put, sA, sB, sC])
        refine oT 8 (fun K hK => ?_)
        go_simp
        (go_at_call 123; refine (Clone_calls HPf.out (by omega)).mono ?_; rintro e w2 ⟨v2, rfl, ho2, hu2⟩; obtain ⟨A2, c2, rfl, _, _⟩ := Rp.own_slice ho2; have HO2 := As.mk ho2; have HP2 := As.mk (show Pure W.drew w2 from hu2); have HQ2 := As.mk (Rp.row_pure HQf.out HP2.out); clear ho2 hu2)
        refine hK.out _ _ (fun _ => by first | exact HSK.out _ HP5.out | exact HSK.out _ HP4.out | exact HSK.out _ HP3.out | exact HSK.out _ HP2.out | exact HSK.out _ (Upd.refl _ _)) (fun hHeld => ?_)
        replace hHeld := hHeld (by decide)
        clear hK K
        (try simp only [Act.put, sA, sB, sC])
        refine oT 11 (fun K hK => ?_)
        refine Rp.step_append_row intR (c := cq) HO2.out (Rp.row'_of HQ2.out (fun _ _ h => h)) (Fz := fun _ => False) (fun _ h => h.elim) (by rfl) _ _ 83 (.int .i64 0) 8 (by rfl) Tryz.underlying83 int_info rfl (by decide) (by decide) (by rfl) (by rfl) (by omega) ?_; intro v3 w3 ho3 hu3 hat3; obtain ⟨A3, c3, rfl, _, _⟩ := Rp.own_slice ho3; have HP3 := As.mk (show Pure W.drew w3 from Upd.trans HP2.out hu3 (fun k hk h => by have := (Rp.own_block_lt HO2.out k h).1; omega)); have HO3 := As.mk (int_own_fp' (G := fun k => W.drew.heap.size ≤ k) ho3 (fun k hk => by rcases hat3 with h | ⟨b, hb, hle⟩; exact (Rp.own_block_lt HO2.out k (h ▸ hk)).1; rw [hb] at hk; injection hk with hk; have := HP2.out.size; omega)); clear ho3 hu3 hat3
        refine hK.out _ _ (fun _ => by first | exact HSK.out _ HP5.out | exact HSK.out _ HP4.out | exact HSK.out _ HP3.out | exact HSK.out _ HP2.out | exact HSK.out _ (Upd.refl _ _)) (fun hHeld => ?_)
        replace hHeld := hHeld (by decide)
        clear hK K
        (try simp only [Act.put, sA, sB, sC])
        refine oT 14 (fun K hK => ?_)
        go_simp
        (go_at_call 123; refine (Clone_calls (Rp.row_pure HPl.out HP3.out) (by omega)).mono ?_; rintro e w4 ⟨v4, rfl, ho4, hu4⟩; obtain ⟨A4, c4, rfl, _, _⟩ := Rp.own_slice ho4; have HO4 := As.mk ho4; have HU4 := As.mk hu4; have HP4 := As.mk (show Pure W.drew w4 from HP3.out.trans hu4 (fun _ _ h => h)); have HQ4 := As.mk (Rp.row_pure HQl.out HP4.out); clear ho4 hu4)
        refine hK.out _ _ (fun _ => by first | exact HSK.out _ HP5.out | exact HSK.out _ HP4.out | exact HSK.out _ HP3.out | exact HSK.out _ HP2.out | exact HSK.out _ (Upd.refl _ _)) (fun hHeld => ?_)
        replace hHeld := hHeld (by decide)
        clear hK K
        (try simp only [Act.put, sA, sB, sC])
        refine oT 17 (fun K hK => ?_)
        refine Rp.step_append_row intR (c := cr) HO4.out (Rp.row'_of HQ4.out (fun _ _ h => h)) (Fz := fun _ => False) (fun _ h => h.elim) (by rfl) _ _ 83 (.int .i64 0) 8 (by rfl) Tryz.underlying83 int_info rfl (by decide) (by decide) (by rfl) (by rfl) (by omega) ?_; intro v5 w5 ho5 hu5 hat5; obtain ⟨A5, c5, rfl, _, _⟩ := Rp.own_slice ho5; have HP5 := As.mk (show Pure W.drew w5 from Upd.trans HP4.out hu5 (fun k hk h => by have := (Rp.own_block_lt HO4.out k h).1; have := HP3.out.size; omega)); have HO5 := As.mk (int_own_fp' (G := fun k => w3.heap.size ≤ k) ho5 (fun k hk => by rcases hat5 with h | ⟨b, hb, hle⟩; exact (Rp.own_block_lt HO4.out k (h ▸ hk)).1; rw [hb] at hk; injection hk with hk; have := HU4.out.size; omega)); have HO6 := As.mk (Rp.own_upd (Rp.own_upd (int_own_fp HO3.out) HU4.out (fun _ _ _ h => h)) hu5 (fun k _ hk he => by have h1 := (Rp.own_block_lt HO4.out k he).1; have h2 := (Rp.own_block_lt HO3.out k hk).2; omega)); have HS35 := As.mk (Nat.le_trans HU4.out.size hu5.size); clear ho5 hu5 hat5
        refine hK.out _ _ (fun _ => by first | exact HSK.out _ HP5.out | exact HSK.out _ HP4.out | exact HSK.out _ HP3.out | exact HSK.out _ HP2.out | exact HSK.out _ (Upd.refl _ _)) (fun hHeld => ?_)
        replace hHeld := hHeld (by decide)
        clear hK K
        (try simp only [Act.put, sA, sB, sC])
        refine zT 18 ?_
        refine oT 19 (fun K hK => ?_)
        go_simp
        refine hK.out _ _ (fun h => absurd rfl h) (fun hHeld => ?_)
        clear hK K
        (try simp only [Act.put, sA, sB, sC])
        refine wpAnyT_done (by kernel_rfl) ?_ _
        have HPW5 : As (Pure w1 w5) := ⟨HPW1.out.trans HP5.out (fun _ _ h => h)⟩
        have hw5 := HPW5.out.size
        have hw35 := HS35.out
        have hw23 := HP3.out.size
        have HPB5 : As (w5.heap[w.heap.size + 2]? = some (.cells #[.bool true, .slice Af pf.length cf, .slice Al pl.length cl] 221 (0, 0))) := ⟨(HP5.out.block _ pl3 (fun h => h)).trans HPB0.out⟩
        have HRB5 : As (w5.heap[w.heap.size + 1]? = some (.cells #[.bool false, .slice none 0 0, .slice none 0 0] 221 (0, 0))) := ⟨(HP5.out.block _ (by omega) (fun h => h)).trans HRB0.out⟩
        obtain ⟨A3', c3', e3, _, hr3⟩ := Rp.own_slice HO6.out
        simp at e3
        obtain ⟨rfl, rfl⟩ := e3
        obtain ⟨A5', c5', e5, _, hr5⟩ := Rp.own_slice (int_own_fp HO5.out)
        simp at e5
        obtain ⟨rfl, rfl⟩ := e5
        have HRW3 := As.mk hr3
        have HRW5 := As.mk hr5
        replace HO5 := As.mk (And.intro (fun q hq => (Rp.own_block_lt HO5.out q hq).1) HO5.out)
        have HFIN : As (Upd M w (((w5.setCell ⟨w.heap.size + 2, 0, none⟩ (.bool true)).setCell ⟨w.heap.size + 2, 1, none⟩ (.slice A3 (pf.length + (glu g x s).2.first.length) c3)).setCell ⟨w.heap.size + 2, 2, none⟩ (.slice A5 (pl.length + (glu g x s).2.last.length) c5))) := ⟨by
          have hu := (Upd.trans (Upd.trans (HU01.out.mono (S' := fun k => M' k ∨ k = w.heap.size + 2) (fun _ _ h => .inl h)) HP5.out (fun _ _ h => h.elim)) ((set3_upd w5 (w.heap.size + 2) (.bool true) (.slice A3 (pf.length + (glu g x s).2.first.length) c3) (.slice A5 (pl.length + (glu g x s).2.last.length) c5)).mono (S' := fun k => M' k ∨ k = w.heap.size + 2) (fun _ _ h => .inr h)) (S := fun k => M' k ∨ k = w.heap.size + 2) (fun _ _ h => h))
          refine Upd.trans HU2.out hu (fun q hq h => ?_)
          rcases h with h | rfl
          · rcases HM2.out q h with h | h
            · exact h
            · omega
          · omega⟩
        clear hr3 hr5
        go_wp2
        go_roundg g1
        case measure => omega
        case rel =>
          refine ⟨k + 1, by have := HK.out; omega, by go_num, ⟨M1, tv1, fv1, vs1, (glu g x s).1, ⟨true || (glu g x s).2.none, pf ++ (glu g x s).2.first, pl ++ (glu g x s).2.last⟩, A3, c3, A5, c5, ?_, ?_, HQB.out.len HLN.out, ?_, ?_, fun q hq => HGG.out.1 q (HM1.out q hq), ?_, ?_, ?_, ?_, ?_, ?_⟩⟩
          · rw [← HCC.out, HDX.out, gluAlt]
          · rw [HCX.out]
            exact Bd.next HBD.out HQB.out (glu g x s).1 rfl rfl _ ⟨fun a ha => List.mem_append.1 ha, fun a ha => List.mem_append.1 ha, by simp, by simp⟩
          · intro y hy
            have := glu_fb g x s (1000000000 - 80000 * Ex.cnts (l.drop k)) (fun z hz => by have := HFB2.out z hz; omega) (by omega) y hy
            omega
          · exact (HMM.out.pure HPW5.out).upd (set3_upd w5 (w.heap.size + 2) _ _ _) (fun q _ hq => by subst hq; exact ⟨by have := HM.out.low mb HM.out.mbM; omega, HPBM.out⟩)
          · exact HM12.out
          · have := set3 HPB5.out (.bool true) (.slice A3 (pf.length + (glu g x s).2.first.length) c3) (.slice A5 (pl.length + (glu g x s).2.last.length) c5)
            simp only [List.length_append, Bool.false_or, Bool.true_or]
            exact this
          · exact ((set3_upd w5 (w.heap.size + 2) _ _ _).block _ (by have := HPW5.out.size; omega) (by omega)).trans HRB5.out
          · refine Rp.row_fp (Rp.row_upd (HRW3.out) (set3_upd w5 (w.heap.size + 2) _ _ _) (fun q _ hq he => ?_)) (fun q hq => ?_)
            · have := (Rp.own_block_lt HO3.out q hq).1; omega
            · have h1 := (Rp.own_block_lt HO3.out q hq).1
              exact ⟨by omega, fun hM => by have := (HMM.out.low q hM).2; omega⟩
          · refine Rp.row_fp (Rp.row_upd (HRW5.out) (set3_upd w5 (w.heap.size + 2) _ _ _) (fun q _ hq he => ?_)) (fun q hq => ?_)
            · have := HO5.out.1 q hq; omega
            · have h1 := HO5.out.1 q hq
              exact ⟨by omega, fun hM => by have := (HMM.out.low q hM).2; omega⟩
          · exact HFIN.out
    · have hkl : k = l.length := by omega
      subst hkl
      rw [List.drop_length] at HC
      obtain ⟨Af, cf, Al, cl, hpb, hrb, hend⟩ := HC.out.done (by have := HM.out.low mb HM.out.mbM; omega) (fun k hk => (HM.out.low k hk).2) (fun s p => by rw [gluAlt])
      obtain ⟨⟨p0, p1, p2⟩, _, _, _, _⟩ := cells3 hpb
      obtain ⟨⟨r0, r1, r2⟩, f0, f1, f2, _⟩ := cells3 hrb
      have HE := As.mk hend
      rw [← HV.out] at HE p0 p1 p2
      clear hpb hrb hend HC
      go_wp2
      obtain ⟨he1, he2⟩ := HE.out _ rfl
      exact build_ret (rb := w.heap.size + 1) rfl he1 rfl he2
end Go.Proofs.YtofjodppljnlaaaGreatDoor
namespace Go.Proofs.YtofjodppljnlaaaGreatDoor
open Go.RowKit
set_option linter.unusedVariables false
set_option linter.unusedSimpArgs false
/-- Between the stores of one round: only the box of what is reckoned has turned since W. -/
structure Stg (W V : World) (R : Nat → Prop) (pb qb : Nat) (pn : Bool) (pf pl : List Int) (Af : Option Addr) (cf : Nat) (Al : Option Addr) (cl : Nat) (qn : Bool) (qf ql : List Int) (Aq : Option Addr) (cq : Nat) (Ar : Option Addr) (cr : Nat) : Prop where
  upd : Upd (fun k => k = pb) W V
  pbx : V.heap[pb]? = some (.cells #[.bool pn, .slice Af pf.length cf, .slice Al pl.length cl] 221 (0, 0))
  qbx : V.heap[qb]? = some (.cells #[.bool qn, .slice Aq qf.length cq, .slice Ar ql.length cr] 221 (0, 0))
  ne : qb ≠ pb
  rf : intR.row V R Af pf
  rl : intR.row V R Al pl
  rqf : intR.row V R Aq qf
  rql : intR.row V R Ar ql
  out : ¬ R pb
namespace Stg
variable {W V w4 : World} {R : Nat → Prop} {pb qb : Nat} {pn : Bool} {pf pl : List Int} {Af : Option Addr} {cf : Nat} {Al : Option Addr} {cl : Nat} {qn : Bool} {qf ql : List Int} {Aq : Option Addr} {cq : Nat} {Ar : Option Addr} {cr : Nat}
theorem pure (h : Stg W V R pb qb pn pf pl Af cf Al cl qn qf ql Aq cq Ar cr) (hu : Pure V w4) : Stg W w4 R pb qb pn pf pl Af cf Al cl qn qf ql Aq cq Ar cr :=
  ⟨Upd.trans h.upd hu (fun _ _ h => h.elim), (hu.block _ (Array.getElem?_eq_some_iff.1 h.pbx).1 (fun h => h)).trans h.pbx, (hu.block _ (Array.getElem?_eq_some_iff.1 h.qbx).1 (fun h => h)).trans h.qbx, h.ne, Rp.row_pure h.rf hu, Rp.row_pure h.rl hu, Rp.row_pure h.rqf hu, Rp.row_pure h.rql hu, h.out⟩
theorem moved (h : Stg W V R pb qb pn pf pl Af cf Al cl qn qf ql Aq cq Ar cr) {i : Nat} {v : Value} {A : Option Addr} {xs : List Int} (hr : intR.row V R A xs) : intR.row (V.setCell ⟨pb, i, none⟩ v) R A xs :=
  Rp.row_upd hr (Upd.setCell1 (S := fun k => k = pb) V (p := ⟨pb, i, none⟩) rfl v) (fun k _ hk he => h.out (he ▸ hk))
theorem first (h : Stg W V R pb qb pn pf pl Af cf Al cl qn qf ql Aq cq Ar cr) {A3 : Option Addr} {c3 : Nat} {xs : List Int} (hr : intR.row V R A3 xs) : Stg W (V.setCell ⟨pb, 1, none⟩ (.slice A3 xs.length c3)) R pb qb pn xs pl A3 c3 Al cl qn qf ql Aq cq Ar cr :=
  ⟨h.upd.setCell (p := ⟨pb, 1, none⟩) (fun _ => rfl) _, by simp [World.setCell, Array.getElem?_modify, h.pbx], (Below.heap_setCell _ _ _ _ h.ne).trans h.qbx, h.ne, h.moved hr, h.moved h.rl, h.moved h.rqf, h.moved h.rql, h.out⟩
theorem last (h : Stg W V R pb qb pn pf pl Af cf Al cl qn qf ql Aq cq Ar cr) {A3 : Option Addr} {c3 : Nat} {xs : List Int} (hr : intR.row V R A3 xs) : Stg W (V.setCell ⟨pb, 2, none⟩ (.slice A3 xs.length c3)) R pb qb pn pf xs Af cf A3 c3 qn qf ql Aq cq Ar cr :=
  ⟨h.upd.setCell (p := ⟨pb, 2, none⟩) (fun _ => rfl) _, by simp [World.setCell, Array.getElem?_modify, h.pbx], (Below.heap_setCell _ _ _ _ h.ne).trans h.qbx, h.ne, h.moved h.rf, h.moved hr, h.moved h.rqf, h.moved h.rql, h.out⟩
theorem noneB (h : Stg W V R pb qb pn pf pl Af cf Al cl qn qf ql Aq cq Ar cr) (b : Bool) : Stg W (V.setCell ⟨pb, 0, none⟩ (.bool b)) R pb qb b pf pl Af cf Al cl qn qf ql Aq cq Ar cr :=
  ⟨h.upd.setCell (p := ⟨pb, 0, none⟩) (fun _ => rfl) _, by simp [World.setCell, Array.getElem?_modify, h.pbx], (Below.heap_setCell _ _ _ _ h.ne).trans h.qbx, h.ne, h.moved h.rf, h.moved h.rl, h.moved h.rqf, h.moved h.rql, h.out⟩
theorem cells (h : Stg W V R pb qb pn pf pl Af cf Al cl qn qf ql Aq cq Ar cr) {v : World} (hv : Pure V v) : v.cell? ⟨pb, 0, none⟩ = some (.bool pn) ∧ v.cell? ⟨pb, 1, none⟩ = some (.slice Af pf.length cf) ∧ v.cell? ⟨pb, 2, none⟩ = some (.slice Al pl.length cl) ∧ v.cell? ⟨qb, 0, none⟩ = some (.bool qn) ∧ v.cell? ⟨qb, 1, none⟩ = some (.slice Aq qf.length cq) ∧ v.cell? ⟨qb, 2, none⟩ = some (.slice Ar ql.length cr) ∧ v.frozen? ⟨pb, 0, none⟩ = false ∧ v.frozen? ⟨pb, 1, none⟩ = false ∧ v.frozen? ⟨pb, 2, none⟩ = false := by
  have h' := h.pure hv
  obtain ⟨⟨c0, c1, c2⟩, f0, f1, f2, _⟩ := cells3 h'.pbx
  obtain ⟨⟨d0, d1, d2⟩, _, _, _, _⟩ := cells3 h'.qbx
  exact ⟨c0, c1, c2, d0, d1, d2, f0, f1, f2⟩
end Stg
/-- A row of the call's own, at blocks beyond a bound, as a row that is read. -/
theorem row_new {w : World} {e : Nat} {F R : Nat → Prop} {A : Option Addr} {n c : Nat} {xs : List Int} (h : intR.own e w F (.slice A n c) xs) (hR : ∀ k, (Value.slice A n c).ownBlock = some k → R k) : intR.row w R A xs := by
  obtain ⟨A', c', he, _, hr⟩ := Rp.own_slice (int_own_fp h)
  simp at he
  obtain ⟨rfl, _, rfl⟩ := he
  exact Rp.row_fp hr hR
set_option maxRecDepth 100000 in
set_option maxHeartbeats 4000000 in
theorem build_seq (nm : ByteArray) (l : List Ex) (HI : ∀ x ∈ l, BuildC x) (hcnt : Ex.cnts l ≤ 199) : BuildC (.mk 2 nm l) := by
  intro w B M F G mb s b0 b1 b2 tv fv vs A Ag c cg g hsl0 hm hr hF hg hG hgl hs hfb
  obtain ⟨s1, s2⟩ := s
  have HII := As.mk HI
  have HM := As.mk hm
  have HR := As.mk hr
  have HF := As.mk hF
  have HG := As.mk hg
  have HGB := As.mk hG
  simp only at hsl0
  have hlb := (hm.low mb hm.mbM)
  have hc1 : (Ex.mk 2 nm l).cnt = 1 + Ex.cnts l := by simp [Ex.cnt]
  rw [hc1] at hs hfb
  simp only at hs hfb
  have hll : l.length ≤ 199 := by
    have h : l.length ≤ Ex.cnts l := by
      clear HII HI HR hr hc1 hs hfb hcnt
      induction l with
      | nil => simp
      | cons x r ih => have := x.cnt_pos; simp only [Ex.cnts, List.length_cons]; omega
    omega
  have HV := As.mk (show glu g (.mk 2 nm l) (s1, s2) = gluSeq g l (s1, s2) ⟨true, [], []⟩ by rw [glu]; rfl)
  have HFB := As.mk (show ∀ x ∈ s2, x.length + 80000 * Ex.cnts l ≤ 1000000000 from fun x hx => by have := hfb x hx; omega)
  have HS := As.mk hsl0
  clear hm hr hF hg hG hfb HI hc1 hsl0
  show Calls Tryz.prog 165 #[.pointer (some ⟨mb, 0, none⟩), .agg #[.int .i64 2, .string nm, .slice A l.length c], .slice Ag g.length cg] w _
  go_enter Tryz.func165, Tryz.ntmps165
  go_wp2
  go_loopg [97] l.length (fun gg i wr => ∃ k : Nat, k + gg = l.length ∧ i = .int .i64 k ∧ As (LoopRel (gluSeq g) (gluSeq g l (s1, s2) ⟨true, [], []⟩) w wr B M mb b0 b1 b2 (s1, s2) (l.drop k) (Ex.cnts (l.take k))))
  case atStart =>
    refine ⟨0, by omega, rfl, ⟨M, tv, fv, vs, (s1, s2), ⟨true, [], []⟩, none, 0, none, 0, rfl, Bd.start _ _, HS.out, HFB.out, HM.out.pure (((Upd.alloc1 _ _ _).alloc _).alloc _), fun _ h => h, fun _ h => .inl h, ?_, ?_, .inl rfl, .inl rfl, ((Upd.alloc1 _ _ _).alloc _).alloc _⟩⟩
    · have := heap_alloc_new ((w.alloc (.cells #[.int .i64 2, .string nm, .slice A l.length c] 92)).alloc (.cells #[.bool false, .slice none 0 0, .slice none 0 0] 221)) (.cells #[.bool true, .slice none 0 0, .slice none 0 0] 221)
      simpa using this
    · exact (Below.heap_alloc _ _ _ (by simp)).trans (heap_alloc2_new w _ _)
  case round =>
    obtain ⟨k, hk, rfl, HC⟩ := hrel
    by_cases hlt : k < l.length
    · obtain ⟨x, hx⟩ : ∃ x, l[k]? = some x := ⟨_, List.getElem?_eq_getElem hlt⟩
      obtain ⟨M', tv', fv', vs', s, ⟨pn, pf, pl⟩, Af, cf, Al, cl, hc, hbd, hlen, hfb2, hm2, hM1, hM2, hpb, hrb, hf2, hl2, hu2⟩ := HC.out
      have hmM := fun k hk => (HM.out.low k hk)
      have hrw := Rp.row_upd HR.out hu2 (fun k _ hF hM => by have := HF.out k hF; have := (hmM k hM).1; omega)
      have hgw := Rp.row_upd HG.out hu2 (fun k _ hF hM => by have := HGB.out k hF; have := (hmM k hM).1; omega)
      obtain ⟨b, o, Ax, cx, rfl, hFb, hbl, d0, d1, d2, hle1, hrow1⟩ := ex_at hrw hx
      obtain ⟨g1, rfl⟩ : ∃ m, gk = m + 1 := ⟨gk - 1, by omega⟩
      have hxm := List.mem_of_getElem? hx
      have hdx := drop_cons' hx
      have hcx : Ex.cnts (l.take (k + 1)) = Ex.cnts (l.take k) + x.cnt := Ex.cnts_succ hx
      have hsum : Ex.cnts (l.take k) + Ex.cnts (l.drop k) = Ex.cnts l := by rw [← Ex.cnts_append, List.take_append_drop]
      have hdc : Ex.cnts (l.drop k) = x.cnt + Ex.cnts (l.drop (k + 1)) := by rw [hdx]; simp [Ex.cnts]
      have hbhi := hbd.hi
      have hbfl := hbd.fl
      have hbll := hbd.ll
      simp only at hbhi hbfl hbll
      have HBC := As.mk (fun (wz : World) (hz : Pure wr wz) => HII.out x hxm wz B M' F G mb s b0 b1 b2 tv' fv' vs' Ax Ag cx cg g hlen (hm2.pure hz) (Rp.row_pure hrow1 hz) HF.out (Rp.row_pure hgw hz) HGB.out hgl (by omega) (fun y hy => by have := hfb2 y hy; omega))
      have hql := glu_bd g x s
      have hqfl := hql.fl
      have hqll := hql.ll
      have HBD := As.mk hbd
      have HQB := As.mk hql
      have HLN := As.mk hlen
      have HFB2 := As.mk hfb2
      have HCC := As.mk hc
      have HM1 := As.mk hM1
      have HM2 := As.mk hM2
      have HPB := As.mk hpb
      have HRB := As.mk hrb
      have HF2 := As.mk hf2
      have HL2 := As.mk hl2
      have HU2 := As.mk hu2
      have HLOW := As.mk (fun k hk => hm2.low k hk)
      have HK := As.mk hk
      have HDX := As.mk hdx
      have HCX := As.mk hcx
      have hprl := (Array.getElem?_eq_some_iff.1 hpb).1
      clear hbd hql hlen hfb2 hc hM1 hM2 hpb hrb hf2 hl2 hu2 hm2 hrw hgw hrow1 hx hk hdx hcx HC hmM
      go_wp2_with (go_at_call 165; refine (HBC.out _ (Upd.alloc1 _ _ _)).mono ?_; rintro e w1 ⟨Aq, cq, Ar, cr, M1, tv1, fv1, vs1, rfl, hm1, hg1, hqf, hql, hu1⟩; have HMM := As.mk hm1; have HGG := As.mk hg1; have HQF := As.mk hqf; have HQL := As.mk hql; have HU1 := As.mk hu1; clear hm1 hg1 hqf hql hu1; apply As.out)
      refine ⟨?_⟩
      have hlow0 := HM.out.low mb HM.out.mbM
      have hw01 := HU2.out.size
      have hw12 : wr.heap.size + 1 ≤ w1.heap.size := by have := HU1.out.size; simpa using this
      have hnpM : ¬ M' (w.heap.size + 2) := fun h => by rcases HM2.out _ h with h | h; (have := (HM.out.low _ h).2; omega); omega
      have hnrM : ¬ M' (w.heap.size + 1) := fun h => by rcases HM2.out _ h with h | h; (have := (HM.out.low _ h).2; omega); omega
      have HU01 : As (Upd M' wr w1) := ⟨Upd.trans (Upd.alloc1 M' wr _) HU1.out (fun _ _ h => h)⟩
      have hpb : w1.heap[w.heap.size + 2]? = some (.cells #[.bool pn, .slice Af pf.length cf, .slice Al pl.length cl] 221 (0, 0)) := (HU01.out.block _ hprl hnpM).trans HPB.out
      have hrb : w1.heap[w.heap.size + 1]? = some (.cells #[.bool false, .slice none 0 0, .slice none 0 0] 221 (0, 0)) := (HU01.out.block _ (by omega) hnrM).trans HRB.out
      have HPf := As.mk (Rp.row_upd (Rp.row_move (G := fun q => (w.heap.size + 3 ≤ q ∧ ¬ M' q) ∧ q < wr.heap.size) (fun q hq hl => ⟨⟨hq, hl⟩, hl, rfl⟩) HF2.out) HU01.out (fun _ _ h => h.1.2))
      have HPl := As.mk (Rp.row_upd (Rp.row_move (G := fun q => (w.heap.size + 3 ≤ q ∧ ¬ M' q) ∧ q < wr.heap.size) (fun q hq hl => ⟨⟨hq, hl⟩, hl, rfl⟩) HL2.out) HU01.out (fun _ _ h => h.1.2))
      have HQf := As.mk (Rp.row_move (G := fun q => ((wr.alloc (.cells #[.int .i64 x.k, .string x.name, .slice Ax x.l.length cx] 92)).heap.size ≤ q ∧ ¬ M1 q) ∧ q < w1.heap.size) (fun q hq hl => ⟨⟨hq, hl⟩, hl, rfl⟩) HQF.out)
      have HQl := As.mk (Rp.row_move (G := fun q => ((wr.alloc (.cells #[.int .i64 x.k, .string x.name, .slice Ax x.l.length cx] 92)).heap.size ≤ q ∧ ¬ M1 q) ∧ q < w1.heap.size) (fun q hq hl => ⟨⟨hq, hl⟩, hl, rfl⟩) HQL.out)
      have hal : (wr.alloc (.cells #[.int .i64 x.k, .string x.name, .slice Ax x.l.length cx] 92)).heap.size = wr.heap.size + 1 := by simp
      have HM12 : As (∀ q, M1 q → M q ∨ w.heap.size + 3 ≤ q) := ⟨fun q hq => by
        rcases HGG.out.2 q hq with h | h
        · exact HM2.out q h
        · have h1 := h.1
          omega⟩
      have HPBM : As (¬ M1 (w.heap.size + 2)) := ⟨fun h => by rcases HM12.out _ h with h | h; (have := (HM.out.low _ h).2; omega); omega⟩
      have HRBM : As (¬ M1 (w.heap.size + 1)) := ⟨fun h => by rcases HM12.out _ h with h | h; (have := (HM.out.low _ h).2; omega); omega⟩
      have HPB0 := As.mk hpb
      have HRB0 := As.mk hrb
      obtain ⟨⟨pc0, pc1, pc2⟩, pg0, pg1, pg2, pl3⟩ := cells3 hpb
      have HFJ := As.mk (fun (y : List Int) (hy : y ∈ (glu g x s).1.2) => glu_fb g x s (1000000000 - 80000 * Ex.cnts (l.drop k)) (fun z hz => by have := HFB2.out z hz; omega) (by omega) y hy)
      have hqlen := HQB.out.len HLN.out
      have hqhi := HQB.out.hi
      have hqlo := HQB.out.lo
      have HRNG := As.mk (fun (a : Int) (ha : a ∈ pl) => show 0 ≤ a ∧ a < ((glu g x s).1.2.length : Int) by have h1 := HBD.out.last a ha; omega)
      clear hpb hrb
      have HJ := As.mk (join_calls (cl := cl) (cf := cq) (HMM.out.pure (Upd.alloc1 (fun _ => False) w1 (.cells #[.bool (glu g x s).2.none, .slice Aq (glu g x s).2.first.length cq, .slice Ar (glu g x s).2.last.length cr] 221))) (Rp.row_pure HPl.out (Upd.alloc1 (fun _ => False) w1 _)) (Rp.row_pure HQf.out (Upd.alloc1 (fun _ => False) w1 _))
        (fun q hq _ hM => by rcases HGG.out.2 q hM with h | h; exact hq.1.2 h; have := h.1; omega) (fun q hq _ hM => hq.1.2 hM) HRNG.out (by omega) (by omega) (by omega) (fun y hy => by have := HFJ.out y hy; omega))
      go_wp2_with (go_at_call 193; refine HJ.out.mono ?_; rintro e w2 ⟨rfl, M2, fv2, vs2, hm2, hg2, hu2⟩; have HMJ := As.mk hm2; have HGJ := As.mk hg2; have HUJ := As.mk hu2; clear hm2 hg2 hu2; apply As.out)
      refine ⟨?_⟩
      have hw23 : w1.heap.size + 1 ≤ w2.heap.size := by have := HUJ.out.size; simpa using this
      have hal2 : (w1.alloc (.cells #[.bool (glu g x s).2.none, .slice Aq (glu g x s).2.first.length cq, .slice Ar (glu g x s).2.last.length cr] 221)).heap.size = w1.heap.size + 1 := by simp
      have HM1R : As (∀ q, M2 q → M1 q ∨ w1.heap.size + 1 ≤ q) := ⟨fun q hq => by
        rcases HGJ.out.2 q hq with h | h
        · exact .inl h
        · exact .inr (by have := h.1; omega)⟩
      have hm1lt := fun q (hq : M1 q) => (HMM.out.low q hq).2
      have hstg : Stg w2 w2 (fun q => w.heap.size + 3 ≤ q ∧ ¬ M2 q) (w.heap.size + 2) w1.heap.size pn pf pl Af cf Al cl (glu g x s).2.none (glu g x s).2.first (glu g x s).2.last Aq cq Ar cr := by
        refine ⟨Upd.refl _ _, ?_, ?_, by omega, ?_, ?_, ?_, ?_, fun h => by omega⟩
        · exact (HUJ.out.block _ (by omega) HPBM.out).trans ((Below.heap_alloc _ _ _ pl3).trans HPB0.out)
        · exact (HUJ.out.block _ (by omega) (fun h => by have := hm1lt _ h; omega)).trans (heap_alloc_new w1 _)
        · exact Rp.row_fp (Rp.row_upd (Rp.row_pure HPf.out (Upd.alloc1 (fun _ => False) w1 _)) HUJ.out (fun q _ hq hM => by rcases HGG.out.2 q hM with h | h; exact hq.1.2 h; have := h.1; omega)) (fun q hq => ⟨hq.1.1, fun hM => by
            rcases HM1R.out q hM with h | h
            · rcases HGG.out.2 q h with h | h
              · exact hq.1.2 h
              · have := h.1; omega
            · omega⟩)
        · exact Rp.row_fp (Rp.row_upd (Rp.row_pure HPl.out (Upd.alloc1 (fun _ => False) w1 _)) HUJ.out (fun q _ hq hM => by rcases HGG.out.2 q hM with h | h; exact hq.1.2 h; have := h.1; omega)) (fun q hq => ⟨hq.1.1, fun hM => by
            rcases HM1R.out q hM with h | h
            · rcases HGG.out.2 q h with h | h
              · exact hq.1.2 h
              · have := h.1; omega
            · omega⟩)
        · exact Rp.row_fp (Rp.row_upd (Rp.row_pure HQf.out (Upd.alloc1 (fun _ => False) w1 _)) HUJ.out (fun q _ hq hM => hq.1.2 hM)) (fun q hq => ⟨by have := hq.1.1; omega, fun hM => by
            rcases HM1R.out q hM with h | h
            · exact hq.1.2 h
            · omega⟩)
        · exact Rp.row_fp (Rp.row_upd (Rp.row_pure HQl.out (Upd.alloc1 (fun _ => False) w1 _)) HUJ.out (fun q _ hq hM => hq.1.2 hM)) (fun q hq => ⟨by have := hq.1.1; omega, fun hM => by
            rcases HM1R.out q hM with h | h
            · exact hq.1.2 h
            · omega⟩)
      have HFIN : As (∀ V pn' pf' pl' Af' cf' Al' cl', Stg w2 V (fun q => w.heap.size + 3 ≤ q ∧ ¬ M2 q) (w.heap.size + 2) w1.heap.size pn' pf' pl' Af' cf' Al' cl' (glu g x s).2.none (glu g x s).2.first (glu g x s).2.last Aq cq Ar cr → pn' = (pn && (glu g x s).2.none) → pf' = (if pn = true then pf ++ (glu g x s).2.first else pf) → pl' = (if (glu g x s).2.none = true then pl ++ (glu g x s).2.last else (glu g x s).2.last) →
          LoopRel (gluSeq g) (gluSeq g l (s1, s2) ⟨true, [], []⟩) w V B M mb b0 b1 b2 (s1, s2) (l.drop (k + 1)) (Ex.cnts (l.take (k + 1)))) := ⟨by
        intro V pn' pf' pl' Af' cf' Al' cl' hS e1 e2 e3
        have hMJ := HMJ.out
        refine ⟨M2, tv1, fv2, vs2, ((glu g x s).1.1, joinF (glu g x s).1.2 pl (glu g x s).2.first), ⟨pn', pf', pl'⟩, Af', cf', Al', cl', ?_, ?_, ?_, ?_, ?_, fun q hq => HGJ.out.1 q (HGG.out.1 q (HM1.out q hq)), ?_, hS.pbx, ?_, hS.rf, hS.rl, ?_⟩
        · rw [← HCC.out, HDX.out, gluSeq, e1, e2, e3]
        · rw [HCX.out]
          exact Bd.next HBD.out HQB.out ((glu g x s).1.1, joinF (glu g x s).1.2 pl (glu g x s).2.first) rfl (joinF_len _ _ _) _ ⟨fun a ha => mem_ite_l (by simpa [e2] using ha), fun a ha => mem_ite_r (by simpa [e3] using ha), by simp only [e2]; exact len_ite_l, by simp only [e3]; exact len_ite_r⟩
        · simp only [joinF_len]
          exact hqlen
        · intro y hy
          have := joinF_bound (b := 1000000000 - 80000 * Ex.cnts (l.drop (k + 1)) - 40000) (fun z hz => by have := HFJ.out z hz; omega) y hy
          have h6 : pl.length * (glu g x s).2.first.length ≤ 200 * 200 := Nat.mul_le_mul (by omega) (by omega)
          omega
        · exact hMJ.upd hS.upd (fun q _ hq => by subst hq; exact ⟨by omega, fun hM => by rcases HM1R.out _ hM with h | h; exact HPBM.out h; omega⟩)
        · intro q hq
          rcases HM1R.out q hq with h | h
          · exact HM12.out q h
          · exact .inr (by omega)
        · exact (hS.upd.block _ (by omega) (by omega)).trans ((HUJ.out.block _ (by omega) HRBM.out).trans ((Below.heap_alloc _ _ _ (by omega)).trans HRB0.out))
        · have u1 : Upd (fun q => M1 q ∨ q = w.heap.size + 2) w1 V := Upd.trans (S := fun q => M1 q ∨ q = w.heap.size + 2) (S' := fun q => M1 q ∨ q = w.heap.size + 2) (Upd.alloc1 _ w1 _) (Upd.trans (S := fun q => M1 q ∨ q = w.heap.size + 2) (S' := fun q => q = w.heap.size + 2) (HUJ.out.mono (fun _ _ h => .inl h)) hS.upd (fun _ _ h => .inr h)) (fun _ _ h => h)
          have u2 : Upd (fun q => M' q ∨ q = w.heap.size + 2 ∨ wr.heap.size ≤ q) wr V := Upd.trans (HU01.out.mono (fun _ _ h => .inl h)) u1 (fun q hq h => by
            rcases h with h | h
            · rcases HGG.out.2 q h with h | h
              · exact .inl h
              · exact .inr (.inr (by have := h.1; omega))
            · exact .inr (.inl h))
          refine Upd.trans HU2.out u2 (fun q hq h => ?_)
          rcases h with h | h | h
          · rcases HM2.out q h with h | h
            · exact h
            · omega
          · omega
          · omega⟩
      have HST := As.mk hstg
      have hM2low : ∀ q, M2 q → q < w2.heap.size := fun q hq => (HMJ.out.low q hq).2
      clear hstg HMJ HGJ HUJ HJ HM1R pc0 pc1 pc2 pg0 pg1 pg2 pl3 hm1lt HRNG HFJ HPB0 HRB0 HPBM HRBM HM12 HPf HPl HQf HQl HU01 HQF HQL HMM HGG HU1 HF2 HL2 HPB HRB HU2 HM1 HM2 HLOW HBD HQB HLN HFB2 HCC HDX HCX HBC hnpM hnrM hal hal2
      have HM2L := As.mk (fun q (hq : M2 q) => (hM2low q hq))
      clear hM2low
      generalize hqn : (glu g x s).2.none = qn at *
      cases pn
      · cases qn
        · obtain ⟨c0, c1, c2, d0, d1, d2, f0, f1, f2⟩ := HST.out.cells (Upd.refl (fun _ => False) _)
          go_wp2
          go_roundg g1
          case measure => omega
          case rel =>
            rw [(show w.heap.size + 1 + 1 = w.heap.size + 2 from rfl)]
            exact ⟨k + 1, by have := HK.out; omega, by go_num, ⟨HFIN.out _ _ _ _ _ _ _ _ (((HST.out).last (c3 := cr) (HST.out.rql)).noneB false) (by simp) (by simp) (by simp)⟩⟩
        · obtain ⟨c0, c1, c2, d0, d1, d2, f0, f1, f2⟩ := HST.out.cells (Upd.refl (fun _ => False) _)
          go_wp2
          clear c0 c1 c2 d0 d1 d2 f0 f1 f2
          have HSd := As.mk (HST.out.pure ((Upd.refl (fun _ => False) _).drew))
          have hvs : w2.heap.size ≤ w2.heap.size := HST.out.upd.size
          refine wp_region_T (P := Tryz.prog) (fun v => v.cell? ⟨w.heap.size + 2, 0, none⟩ = some (.bool false) ∧ v.cell? ⟨w.heap.size + 2, 1, none⟩ = some (.slice Af (pf).length cf) ∧ v.cell? ⟨w.heap.size + 2, 2, none⟩ = some (.slice Al (pl).length cl) ∧ v.cell? ⟨w1.heap.size, 0, none⟩ = some (.bool true) ∧ v.cell? ⟨w1.heap.size, 1, none⟩ = some (.slice Aq (glu g x s).2.first.length cq) ∧ v.cell? ⟨w1.heap.size, 2, none⟩ = some (.slice Ar (glu g x s).2.last.length cr) ∧ v.frozen? ⟨w.heap.size + 2, 0, none⟩ = false ∧ v.frozen? ⟨w.heap.size + 2, 1, none⟩ = false ∧ v.frozen? ⟨w.heap.size + 2, 2, none⟩ = false) 7 (by kernel_rfl) ?_ (fun hHeld => ?_)
          · first | exact HSd.out.cells HP4.out | exact HSd.out.cells HP3.out | exact HSd.out.cells (Upd.refl _ _)
          refine zT 0 ?_
          refine zT 1 ?_
          (try simp only [Act.put, sA, sB, sC])
          refine zT 3 ?_
          refine zT 4 ?_
          refine oT 2 (fun K hK => ?_)
          go_simp
          (go_at_call 123; refine (Clone_calls HSd.out.rl (by (try simp only [List.length_append]); omega)).mono ?_; rintro e w3 ⟨v3, rfl, ho3, hu3⟩; obtain ⟨A3, c3, rfl, _, _⟩ := Rp.own_slice ho3; have HO3 := As.mk ho3; have HP3 := As.mk hu3; clear ho3 hu3)
          refine hK.out _ _ (fun _ => by first | exact HSd.out.cells HP4.out | exact HSd.out.cells HP3.out | exact HSd.out.cells (Upd.refl _ _)) (fun hHeld => ?_)
          replace hHeld := hHeld (by decide)
          clear hK K
          (try simp only [Act.put, sA, sB, sC])
          refine oT 5 (fun K hK => ?_)
          refine Rp.step_append_row intR (c := cr) HO3.out (Rp.row'_of (HSd.out.pure HP3.out).rql (fun _ _ h => h)) (Fz := fun _ => False) (fun _ h => h.elim) (by rfl) _ _ 83 (.int .i64 0) 8 (by rfl) Tryz.underlying83 int_info rfl (by decide) (by decide) (by rfl) (by rfl) (by (try simp only [List.length_append]); omega) ?_; intro v4 w4 ho4 hu4 hat4; obtain ⟨AV2, cV2, rfl, _, _⟩ := Rp.own_slice ho4; have HP4 := As.mk (show Pure w2.drew w4 from Upd.trans HP3.out hu4 (fun k hk h => by have := (Rp.own_block_lt HO3.out k h).1; omega)); have HO4 := As.mk (int_own_fp' (G := fun k => w2.heap.size ≤ k) ho4 (fun k hk => by rcases hat4 with h | ⟨b, hb, hle⟩; exact (Rp.own_block_lt HO3.out k (h ▸ hk)).1; rw [hb] at hk; injection hk with hk; have h9 : w2.heap.size ≤ w3.heap.size := HP3.out.size; omega)); clear ho4 hu4 hat4
          refine hK.out _ _ (fun _ => by first | exact HSd.out.cells HP4.out | exact HSd.out.cells HP3.out | exact HSd.out.cells (Upd.refl _ _)) (fun hHeld => ?_)
          replace hHeld := hHeld (by decide)
          clear hK K
          (try simp only [Act.put, sA, sB, sC])
          refine zT 6 ?_
          refine oT 7 (fun K hK => ?_)
          go_simp
          refine hK.out _ _ (fun h => absurd rfl h) (fun hHeld => ?_)
          clear hK K
          (try simp only [Act.put, sA, sB, sC])
          refine wpAnyT_done (by kernel_rfl) ?_ _
          rw [(show w.heap.size + 1 + 1 = w.heap.size + 2 from rfl)]
          replace HST := As.mk ((HSd.out.pure HP4.out).last (c3 := cV2) (row_new (R := fun q => w.heap.size + 3 ≤ q ∧ ¬ M2 q) HO4.out (fun k hk => by have h8 := (Rp.own_block_lt HO4.out k hk).1; exact ⟨by omega, fun hM => by have := HM2L.out k hM; omega⟩)))
          rw [show ((pl) ++ (glu g x s).2.last).length = (pl).length + (glu g x s).2.last.length from List.length_append] at HST
          generalize w4.setCell ⟨w.heap.size + 2, 2, none⟩ (.slice AV2 ((pl).length + (glu g x s).2.last.length) cV2) = V2 at *
          clear HSd HP3 HO3 HP4 HO4 hvs
          obtain ⟨c0, c1, c2, d0, d1, d2, f0, f1, f2⟩ := HST.out.cells (Upd.refl (fun _ => False) _)
          go_wp2
          go_roundg g1
          case measure => omega
          case rel =>
            rw [(show w.heap.size + 1 + 1 = w.heap.size + 2 from rfl)]
            exact ⟨k + 1, by have := HK.out; omega, by go_num, ⟨HFIN.out _ _ _ _ _ _ _ _ ((HST.out).noneB (false)) (by simp) (by simp) (by simp)⟩⟩
      · cases qn
        · obtain ⟨c0, c1, c2, d0, d1, d2, f0, f1, f2⟩ := HST.out.cells (Upd.refl (fun _ => False) _)
          go_wp2
          clear c0 c1 c2 d0 d1 d2 f0 f1 f2
          have HSd := As.mk (HST.out.pure ((Upd.refl (fun _ => False) _).drew))
          have hvs : w2.heap.size ≤ w2.heap.size := HST.out.upd.size
          refine wp_region_T (P := Tryz.prog) (fun v => v.cell? ⟨w.heap.size + 2, 0, none⟩ = some (.bool true) ∧ v.cell? ⟨w.heap.size + 2, 1, none⟩ = some (.slice Af (pf).length cf) ∧ v.cell? ⟨w.heap.size + 2, 2, none⟩ = some (.slice Al (pl).length cl) ∧ v.cell? ⟨w1.heap.size, 0, none⟩ = some (.bool false) ∧ v.cell? ⟨w1.heap.size, 1, none⟩ = some (.slice Aq (glu g x s).2.first.length cq) ∧ v.cell? ⟨w1.heap.size, 2, none⟩ = some (.slice Ar (glu g x s).2.last.length cr) ∧ v.frozen? ⟨w.heap.size + 2, 0, none⟩ = false ∧ v.frozen? ⟨w.heap.size + 2, 1, none⟩ = false ∧ v.frozen? ⟨w.heap.size + 2, 2, none⟩ = false) 7 (by kernel_rfl) ?_ (fun hHeld => ?_)
          · first | exact HSd.out.cells HP4.out | exact HSd.out.cells HP3.out | exact HSd.out.cells (Upd.refl _ _)
          refine zT 0 ?_
          refine zT 1 ?_
          (try simp only [Act.put, sA, sB, sC])
          refine zT 3 ?_
          refine zT 4 ?_
          refine oT 2 (fun K hK => ?_)
          go_simp
          (go_at_call 123; refine (Clone_calls HSd.out.rf (by (try simp only [List.length_append]); omega)).mono ?_; rintro e w3 ⟨v3, rfl, ho3, hu3⟩; obtain ⟨A3, c3, rfl, _, _⟩ := Rp.own_slice ho3; have HO3 := As.mk ho3; have HP3 := As.mk hu3; clear ho3 hu3)
          refine hK.out _ _ (fun _ => by first | exact HSd.out.cells HP4.out | exact HSd.out.cells HP3.out | exact HSd.out.cells (Upd.refl _ _)) (fun hHeld => ?_)
          replace hHeld := hHeld (by decide)
          clear hK K
          (try simp only [Act.put, sA, sB, sC])
          refine oT 5 (fun K hK => ?_)
          refine Rp.step_append_row intR (c := cq) HO3.out (Rp.row'_of (HSd.out.pure HP3.out).rqf (fun _ _ h => h)) (Fz := fun _ => False) (fun _ h => h.elim) (by rfl) _ _ 83 (.int .i64 0) 8 (by rfl) Tryz.underlying83 int_info rfl (by decide) (by decide) (by rfl) (by rfl) (by (try simp only [List.length_append]); omega) ?_; intro v4 w4 ho4 hu4 hat4; obtain ⟨AV1, cV1, rfl, _, _⟩ := Rp.own_slice ho4; have HP4 := As.mk (show Pure w2.drew w4 from Upd.trans HP3.out hu4 (fun k hk h => by have := (Rp.own_block_lt HO3.out k h).1; omega)); have HO4 := As.mk (int_own_fp' (G := fun k => w2.heap.size ≤ k) ho4 (fun k hk => by rcases hat4 with h | ⟨b, hb, hle⟩; exact (Rp.own_block_lt HO3.out k (h ▸ hk)).1; rw [hb] at hk; injection hk with hk; have h9 : w2.heap.size ≤ w3.heap.size := HP3.out.size; omega)); clear ho4 hu4 hat4
          refine hK.out _ _ (fun _ => by first | exact HSd.out.cells HP4.out | exact HSd.out.cells HP3.out | exact HSd.out.cells (Upd.refl _ _)) (fun hHeld => ?_)
          replace hHeld := hHeld (by decide)
          clear hK K
          (try simp only [Act.put, sA, sB, sC])
          refine zT 6 ?_
          refine oT 7 (fun K hK => ?_)
          go_simp
          refine hK.out _ _ (fun h => absurd rfl h) (fun hHeld => ?_)
          clear hK K
          (try simp only [Act.put, sA, sB, sC])
          refine wpAnyT_done (by kernel_rfl) ?_ _
          rw [(show w.heap.size + 1 + 1 = w.heap.size + 2 from rfl)]
          replace HST := As.mk ((HSd.out.pure HP4.out).first (c3 := cV1) (row_new (R := fun q => w.heap.size + 3 ≤ q ∧ ¬ M2 q) HO4.out (fun k hk => by have h8 := (Rp.own_block_lt HO4.out k hk).1; exact ⟨by omega, fun hM => by have := HM2L.out k hM; omega⟩)))
          rw [show ((pf) ++ (glu g x s).2.first).length = (pf).length + (glu g x s).2.first.length from List.length_append] at HST
          generalize w4.setCell ⟨w.heap.size + 2, 1, none⟩ (.slice AV1 ((pf).length + (glu g x s).2.first.length) cV1) = V1 at *
          clear HSd HP3 HO3 HP4 HO4 hvs
          obtain ⟨c0, c1, c2, d0, d1, d2, f0, f1, f2⟩ := HST.out.cells (Upd.refl (fun _ => False) _)
          go_wp2
          go_roundg g1
          case measure => omega
          case rel =>
            rw [(show w.heap.size + 1 + 1 = w.heap.size + 2 from rfl)]
            exact ⟨k + 1, by have := HK.out; omega, by go_num, ⟨HFIN.out _ _ _ _ _ _ _ _ (((HST.out).last (c3 := cr) (HST.out.rql)).noneB false) (by simp) (by simp) (by simp)⟩⟩
        · obtain ⟨c0, c1, c2, d0, d1, d2, f0, f1, f2⟩ := HST.out.cells (Upd.refl (fun _ => False) _)
          go_wp2
          clear c0 c1 c2 d0 d1 d2 f0 f1 f2
          have HSd := As.mk (HST.out.pure ((Upd.refl (fun _ => False) _).drew))
          have hvs : w2.heap.size ≤ w2.heap.size := HST.out.upd.size
          refine wp_region_T (P := Tryz.prog) (fun v => v.cell? ⟨w.heap.size + 2, 0, none⟩ = some (.bool true) ∧ v.cell? ⟨w.heap.size + 2, 1, none⟩ = some (.slice Af (pf).length cf) ∧ v.cell? ⟨w.heap.size + 2, 2, none⟩ = some (.slice Al (pl).length cl) ∧ v.cell? ⟨w1.heap.size, 0, none⟩ = some (.bool true) ∧ v.cell? ⟨w1.heap.size, 1, none⟩ = some (.slice Aq (glu g x s).2.first.length cq) ∧ v.cell? ⟨w1.heap.size, 2, none⟩ = some (.slice Ar (glu g x s).2.last.length cr) ∧ v.frozen? ⟨w.heap.size + 2, 0, none⟩ = false ∧ v.frozen? ⟨w.heap.size + 2, 1, none⟩ = false ∧ v.frozen? ⟨w.heap.size + 2, 2, none⟩ = false) 7 (by kernel_rfl) ?_ (fun hHeld => ?_)
          · first | exact HSd.out.cells HP4.out | exact HSd.out.cells HP3.out | exact HSd.out.cells (Upd.refl _ _)
          refine zT 0 ?_
          refine zT 1 ?_
          (try simp only [Act.put, sA, sB, sC])
          refine zT 3 ?_
          refine zT 4 ?_
          refine oT 2 (fun K hK => ?_)
          go_simp
          (go_at_call 123; refine (Clone_calls HSd.out.rf (by (try simp only [List.length_append]); omega)).mono ?_; rintro e w3 ⟨v3, rfl, ho3, hu3⟩; obtain ⟨A3, c3, rfl, _, _⟩ := Rp.own_slice ho3; have HO3 := As.mk ho3; have HP3 := As.mk hu3; clear ho3 hu3)
          refine hK.out _ _ (fun _ => by first | exact HSd.out.cells HP4.out | exact HSd.out.cells HP3.out | exact HSd.out.cells (Upd.refl _ _)) (fun hHeld => ?_)
          replace hHeld := hHeld (by decide)
          clear hK K
          (try simp only [Act.put, sA, sB, sC])
          refine oT 5 (fun K hK => ?_)
          refine Rp.step_append_row intR (c := cq) HO3.out (Rp.row'_of (HSd.out.pure HP3.out).rqf (fun _ _ h => h)) (Fz := fun _ => False) (fun _ h => h.elim) (by rfl) _ _ 83 (.int .i64 0) 8 (by rfl) Tryz.underlying83 int_info rfl (by decide) (by decide) (by rfl) (by rfl) (by (try simp only [List.length_append]); omega) ?_; intro v4 w4 ho4 hu4 hat4; obtain ⟨AV1, cV1, rfl, _, _⟩ := Rp.own_slice ho4; have HP4 := As.mk (show Pure w2.drew w4 from Upd.trans HP3.out hu4 (fun k hk h => by have := (Rp.own_block_lt HO3.out k h).1; omega)); have HO4 := As.mk (int_own_fp' (G := fun k => w2.heap.size ≤ k) ho4 (fun k hk => by rcases hat4 with h | ⟨b, hb, hle⟩; exact (Rp.own_block_lt HO3.out k (h ▸ hk)).1; rw [hb] at hk; injection hk with hk; have h9 : w2.heap.size ≤ w3.heap.size := HP3.out.size; omega)); clear ho4 hu4 hat4
          refine hK.out _ _ (fun _ => by first | exact HSd.out.cells HP4.out | exact HSd.out.cells HP3.out | exact HSd.out.cells (Upd.refl _ _)) (fun hHeld => ?_)
          replace hHeld := hHeld (by decide)
          clear hK K
          (try simp only [Act.put, sA, sB, sC])
          refine zT 6 ?_
          refine oT 7 (fun K hK => ?_)
          go_simp
          refine hK.out _ _ (fun h => absurd rfl h) (fun hHeld => ?_)
          clear hK K
          (try simp only [Act.put, sA, sB, sC])
          refine wpAnyT_done (by kernel_rfl) ?_ _
          rw [(show w.heap.size + 1 + 1 = w.heap.size + 2 from rfl)]
          replace HST := As.mk ((HSd.out.pure HP4.out).first (c3 := cV1) (row_new (R := fun q => w.heap.size + 3 ≤ q ∧ ¬ M2 q) HO4.out (fun k hk => by have h8 := (Rp.own_block_lt HO4.out k hk).1; exact ⟨by omega, fun hM => by have := HM2L.out k hM; omega⟩)))
          rw [show ((pf) ++ (glu g x s).2.first).length = (pf).length + (glu g x s).2.first.length from List.length_append] at HST
          generalize w4.setCell ⟨w.heap.size + 2, 1, none⟩ (.slice AV1 ((pf).length + (glu g x s).2.first.length) cV1) = V1 at *
          clear HSd HP3 HO3 HP4 HO4 hvs
          obtain ⟨c0, c1, c2, d0, d1, d2, f0, f1, f2⟩ := HST.out.cells (Upd.refl (fun _ => False) _)
          go_wp2
          clear c0 c1 c2 d0 d1 d2 f0 f1 f2
          have HSd := As.mk (HST.out.pure ((Upd.refl (fun _ => False) _).drew))
          have hvs : w2.heap.size ≤ V1.heap.size := HST.out.upd.size
          refine wp_region_T (P := Tryz.prog) (fun v => v.cell? ⟨w.heap.size + 2, 0, none⟩ = some (.bool true) ∧ v.cell? ⟨w.heap.size + 2, 1, none⟩ = some (.slice AV1 (pf ++ (glu g x s).2.first).length cV1) ∧ v.cell? ⟨w.heap.size + 2, 2, none⟩ = some (.slice Al (pl).length cl) ∧ v.cell? ⟨w1.heap.size, 0, none⟩ = some (.bool true) ∧ v.cell? ⟨w1.heap.size, 1, none⟩ = some (.slice Aq (glu g x s).2.first.length cq) ∧ v.cell? ⟨w1.heap.size, 2, none⟩ = some (.slice Ar (glu g x s).2.last.length cr) ∧ v.frozen? ⟨w.heap.size + 2, 0, none⟩ = false ∧ v.frozen? ⟨w.heap.size + 2, 1, none⟩ = false ∧ v.frozen? ⟨w.heap.size + 2, 2, none⟩ = false) 7 (by kernel_rfl) ?_ (fun hHeld => ?_)
          · first | exact HSd.out.cells HP4.out | exact HSd.out.cells HP3.out | exact HSd.out.cells (Upd.refl _ _)
          refine zT 0 ?_
          refine zT 1 ?_
          (try simp only [Act.put, sA, sB, sC])
          refine zT 3 ?_
          refine zT 4 ?_
          refine oT 2 (fun K hK => ?_)
          go_simp
          (go_at_call 123; refine (Clone_calls HSd.out.rl (by (try simp only [List.length_append]); omega)).mono ?_; rintro e w3 ⟨v3, rfl, ho3, hu3⟩; obtain ⟨A3, c3, rfl, _, _⟩ := Rp.own_slice ho3; have HO3 := As.mk ho3; have HP3 := As.mk hu3; clear ho3 hu3)
          refine hK.out _ _ (fun _ => by first | exact HSd.out.cells HP4.out | exact HSd.out.cells HP3.out | exact HSd.out.cells (Upd.refl _ _)) (fun hHeld => ?_)
          replace hHeld := hHeld (by decide)
          clear hK K
          (try simp only [Act.put, sA, sB, sC])
          refine oT 5 (fun K hK => ?_)
          refine Rp.step_append_row intR (c := cr) HO3.out (Rp.row'_of (HSd.out.pure HP3.out).rql (fun _ _ h => h)) (Fz := fun _ => False) (fun _ h => h.elim) (by rfl) _ _ 83 (.int .i64 0) 8 (by rfl) Tryz.underlying83 int_info rfl (by decide) (by decide) (by rfl) (by rfl) (by (try simp only [List.length_append]); omega) ?_; intro v4 w4 ho4 hu4 hat4; obtain ⟨AV2, cV2, rfl, _, _⟩ := Rp.own_slice ho4; have HP4 := As.mk (show Pure V1.drew w4 from Upd.trans HP3.out hu4 (fun k hk h => by have := (Rp.own_block_lt HO3.out k h).1; omega)); have HO4 := As.mk (int_own_fp' (G := fun k => V1.heap.size ≤ k) ho4 (fun k hk => by rcases hat4 with h | ⟨b, hb, hle⟩; exact (Rp.own_block_lt HO3.out k (h ▸ hk)).1; rw [hb] at hk; injection hk with hk; have h9 : V1.heap.size ≤ w3.heap.size := HP3.out.size; omega)); clear ho4 hu4 hat4
          refine hK.out _ _ (fun _ => by first | exact HSd.out.cells HP4.out | exact HSd.out.cells HP3.out | exact HSd.out.cells (Upd.refl _ _)) (fun hHeld => ?_)
          replace hHeld := hHeld (by decide)
          clear hK K
          (try simp only [Act.put, sA, sB, sC])
          refine zT 6 ?_
          refine oT 7 (fun K hK => ?_)
          go_simp
          refine hK.out _ _ (fun h => absurd rfl h) (fun hHeld => ?_)
          clear hK K
          (try simp only [Act.put, sA, sB, sC])
          refine wpAnyT_done (by kernel_rfl) ?_ _
          rw [(show w.heap.size + 1 + 1 = w.heap.size + 2 from rfl)]
          replace HST := As.mk ((HSd.out.pure HP4.out).last (c3 := cV2) (row_new (R := fun q => w.heap.size + 3 ≤ q ∧ ¬ M2 q) HO4.out (fun k hk => by have h8 := (Rp.own_block_lt HO4.out k hk).1; exact ⟨by omega, fun hM => by have := HM2L.out k hM; omega⟩)))
          rw [show ((pl) ++ (glu g x s).2.last).length = (pl).length + (glu g x s).2.last.length from List.length_append] at HST
          generalize w4.setCell ⟨w.heap.size + 2, 2, none⟩ (.slice AV2 ((pl).length + (glu g x s).2.last.length) cV2) = V2 at *
          clear HSd HP3 HO3 HP4 HO4 hvs
          obtain ⟨c0, c1, c2, d0, d1, d2, f0, f1, f2⟩ := HST.out.cells (Upd.refl (fun _ => False) _)
          go_wp2
          go_roundg g1
          case measure => omega
          case rel =>
            rw [(show w.heap.size + 1 + 1 = w.heap.size + 2 from rfl)]
            exact ⟨k + 1, by have := HK.out; omega, by go_num, ⟨HFIN.out _ _ _ _ _ _ _ _ ((HST.out).noneB (true)) (by simp) (by simp) (by simp)⟩⟩
    · have hkl : k = l.length := by omega
      subst hkl
      rw [List.drop_length] at HC
      obtain ⟨Af, cf, Al, cl, hpb, hrb, hend⟩ := HC.out.done (by have := HM.out.low mb HM.out.mbM; omega) (fun k hk => (HM.out.low k hk).2) (fun s p => by rw [gluSeq])
      obtain ⟨⟨p0, p1, p2⟩, _, _, _, _⟩ := cells3 hpb
      obtain ⟨⟨r0, r1, r2⟩, f0, f1, f2, _⟩ := cells3 hrb
      have HE := As.mk hend
      rw [← HV.out] at HE p0 p1 p2
      clear hpb hrb hend HC
      go_wp2
      obtain ⟨he1, he2⟩ := HE.out _ rfl
      exact build_ret (rb := w.heap.size + 1) rfl he1 rfl he2
end Go.Proofs.YtofjodppljnlaaaGreatDoor
namespace Go.Proofs.YtofjodppljnlaaaGreatDoor
open Go.RowKit
set_option linter.unusedVariables false
set_option linter.unusedSimpArgs false
theorem one_done {w V : World} {B : Nat} {M M2 : Nat → Prop} {mb : Nat} {ts fs : List (List Int)} {b0 b1 b2 tv fv : Value} {vs : List Value} (hm : Mach V B M2 mb ts fs b0 b1 b2 tv fv vs) (hM1 : ∀ k, M k → M2 k) (hM2 : ∀ k, M2 k → M k ∨ w.heap.size + 2 ≤ k) (hMl : ∀ k, M k → k < w.heap.size) (hB : B ≤ w.heap.size)
    {pb : Nat} (hp : w.heap.size + 2 ≤ pb) (hpM : ¬ M2 pb) (hrb : V.heap[w.heap.size + 1]? = some (.cells #[.bool false, .slice none 0 0, .slice none 0 0] 221 (0, 0))) {Af Al : Option Addr} {cf cl : Nat} {first last : List Int}
    (hf : intR.row V (fun k => (w.heap.size + 2 ≤ k ∧ ¬ M2 k) ∧ k ≠ pb) Af first) (hl : intR.row V (fun k => (w.heap.size + 2 ≤ k ∧ ¬ M2 k) ∧ k ≠ pb) Al last) (hu : Upd M w V) (nn : Bool) :
    ∀ w', w' = ((((V.setCell ⟨pb, 0, none⟩ (.bool nn)).setCell ⟨w.heap.size + 1, 0, none⟩ (.bool nn)).setCell ⟨w.heap.size + 1, 1, none⟩ (.slice Af first.length cf)).setCell ⟨w.heap.size + 1, 2, none⟩ (.slice Al last.length cl)) →
      w'.heap[w.heap.size + 1]? = some (.cells #[.bool nn, .slice Af first.length cf, .slice Al last.length cl] 221 (0, 0)) ∧
      BuildPost w w' B M mb b0 b1 b2 (ts, fs) ⟨nn, first, last⟩ (.returned (.agg #[.bool nn, .slice Af first.length cf, .slice Al last.length cl])) := by
  rintro w' rfl
  have hs1 := Upd.setCell1 (S := fun k => k = pb) V (p := ⟨pb, 0, none⟩) rfl (.bool nn)
  have hs2 := set3_upd (V.setCell ⟨pb, 0, none⟩ (.bool nn)) (w.heap.size + 1) (.bool nn) (.slice Af first.length cf) (.slice Al last.length cl)
  have hsz : ((((V.setCell ⟨pb, 0, none⟩ (.bool nn)).setCell ⟨w.heap.size + 1, 0, none⟩ (.bool nn)).setCell ⟨w.heap.size + 1, 1, none⟩ (.slice Af first.length cf)).setCell ⟨w.heap.size + 1, 2, none⟩ (.slice Al last.length cl)).heap.size = V.heap.size := by simp [World.setCell]
  have hall : Upd (fun k => k = pb ∨ k = w.heap.size + 1) V ((((V.setCell ⟨pb, 0, none⟩ (.bool nn)).setCell ⟨w.heap.size + 1, 0, none⟩ (.bool nn)).setCell ⟨w.heap.size + 1, 1, none⟩ (.slice Af first.length cf)).setCell ⟨w.heap.size + 1, 2, none⟩ (.slice Al last.length cl)) := Upd.trans (hs1.mono (fun _ _ h => .inl h)) hs2 (fun _ _ h => .inr h)
  refine ⟨set3 ((Below.heap_setCell _ _ _ _ (show w.heap.size + 1 ≠ pb by omega)).trans hrb) _ _ _, Af, cf, Al, cl, M2, tv, fv, vs, rfl, hm.upd hall (fun k _ hk => ?_), ⟨hM1, fun k hk => ?_⟩, ?_, ?_, Upd.trans hu hall (fun k hk he => by omega)⟩
  · rcases hk with rfl | rfl
    · exact ⟨by omega, hpM⟩
    · refine ⟨by omega, fun h => ?_⟩
      rcases hM2 _ h with h | h
      · have := hMl _ h; omega
      · omega
  · rcases hM2 k hk with h | h
    · exact .inl h
    · exact .inr ⟨by omega, by rw [hsz]; exact (hm.low k hk).2⟩
  · exact Rp.row_fp (Rp.row_upd hf hall (fun k _ hk he => by rcases he with he | he; exact hk.2 he; omega)) (fun k hk => ⟨by omega, hk.1.2⟩)
  · exact Rp.row_fp (Rp.row_upd hl hall (fun k _ hk he => by rcases he with he | he; exact hk.2 he; omega)) (fun k hk => ⟨by omega, hk.1.2⟩)
set_option maxRecDepth 100000 in
set_option maxHeartbeats 4000000 in
theorem build_one4 (nm : ByteArray) (x : Ex) (HI : BuildC x) (hcnt : x.cnt ≤ 199) : BuildC (.mk 4 nm [x]) := by
  intro w B M F G mb s b0 b1 b2 tv fv vs A Ag c cg g hsl0 hm hr hF hg hG hgl hs hfb
  obtain ⟨s1, s2⟩ := s
  have HII := As.mk HI
  have HM := As.mk hm
  have HR := As.mk hr
  have HF := As.mk hF
  have HG := As.mk hg
  have HGB := As.mk hG
  simp only at hsl0
  have hlb := (hm.low mb hm.mbM)
  have hc1 : (Ex.mk 4 nm [x]).cnt = 1 + x.cnt := by simp [Ex.cnt, Ex.cnts]
  rw [hc1] at hs hfb
  simp only at hs hfb
  have HV := As.mk (show glu g (.mk 4 nm [x]) (s1, s2) = (((glu g x (s1, s2)).1.1, joinF (glu g x (s1, s2)).1.2 (glu g x (s1, s2)).2.last (glu g x (s1, s2)).2.first), ⟨(glu g x (s1, s2)).2.none || decide ((4 : Int) ≠ 5), (glu g x (s1, s2)).2.first, (glu g x (s1, s2)).2.last⟩) by rw [glu]; simp [gluOne])
  have HS := As.mk hsl0
  have HFB := As.mk hfb
  obtain ⟨bA, oA, A1, c1, hAe, hFb, hbl, d0, d1, d2, hle1, hrow1⟩ := ex_at (j := 0) hr rfl
  subst hAe
  rw [show oA + 0 * 3 = oA by omega] at d0 d1 d2
  have HROW := As.mk hrow1
  have hbB := hF _ hFb
  clear hm hr hF hg hG hfb HI hc1 hsl0 hrow1
  show Calls Tryz.prog 165 #[.pointer (some ⟨mb, 0, none⟩), .agg #[.int .i64 4, .string nm, .slice (some ⟨bA, oA, none⟩) 1 c], .slice Ag g.length cg] w _
  go_enter Tryz.func165, Tryz.ntmps165
  have HBC := As.mk (fun (wz : World) (hz : Pure w wz) => HII.out wz B M F G mb (s1, s2) b0 b1 b2 tv fv vs A1 Ag c1 cg g HS.out (HM.out.pure hz) (Rp.row_pure HROW.out hz) HF.out (Rp.row_pure HG.out hz) HGB.out hgl (by simp only; omega) (fun y hy => by have := HFB.out y hy; omega))
  go_wp2_with (go_at_call 165; refine (HBC.out _ ((Upd.alloc1 _ _ _).alloc _)).mono ?_; rintro e w1 ⟨Aq, cq, Ar, cr, M1, tv1, fv1, vs1, rfl, hm1, hg1, hqf, hql, hu1⟩; have HMM := As.mk hm1; have HGG := As.mk hg1; have HQF := As.mk hqf; have HQL := As.mk hql; have HU1 := As.mk hu1; clear hm1 hg1 hqf hql hu1; apply As.out)
  refine ⟨?_⟩
  have hlow0 := HM.out.low mb HM.out.mbM
  have hMl : ∀ k, M k → k < w.heap.size := fun k hk => (HM.out.low k hk).2
  have hs0 : ((w.alloc (.cells #[.int .i64 4, .string nm, .slice (some ⟨bA, oA, none⟩) 1 c] 92)).alloc (.cells #[.bool false, .slice none 0 0, .slice none 0 0] 221)).heap.size = w.heap.size + 2 := by simp
  have hw1 : w.heap.size + 2 ≤ w1.heap.size := by have := HU1.out.size; omega
  have hrb : w1.heap[w.heap.size + 1]? = some (.cells #[.bool false, .slice none 0 0, .slice none 0 0] 221 (0, 0)) := (HU1.out.block _ (by omega) (fun h => by have := hMl _ h; omega)).trans (heap_alloc2_new w _ _)
  have heb : w1.heap[w.heap.size]? = some (.cells #[.int .i64 4, .string nm, .slice (some ⟨bA, oA, none⟩) 1 c] 92 (0, 0)) := (HU1.out.block _ (by omega) (fun h => by have := hMl _ h; omega)).trans (heap_alloc2_old w _ _)
  have hbd := glu_bd g x (s1, s2)
  have hqlen := hbd.len HS.out
  have hqhi := hbd.hi
  have hqlo := hbd.lo
  have hqfl := hbd.fl
  have hqll := hbd.ll
  simp only at hqhi hqlo
  have hm1lt : ∀ q, M1 q → q < w1.heap.size := fun q hq => (HMM.out.low q hq).2
  have hM12 : ∀ q, M1 q → M q ∨ w.heap.size + 2 ≤ q := fun q hq => by
    rcases HGG.out.2 q hq with h | h
    · exact .inl h
    · exact .inr (by have := h.1; omega)
  have HPW := As.mk (show Upd M w w1 from Upd.trans ((Upd.alloc1 M w _).alloc _) HU1.out (fun _ _ h => h))
  have HQf := As.mk (Rp.row_move (G := fun q => (w.heap.size + 2 ≤ q ∧ ¬ M1 q) ∧ q < w1.heap.size) (fun q hq hl => ⟨⟨⟨by have := hq.1; omega, hq.2⟩, hl⟩, hl, rfl⟩) HQF.out)
  have HQl := As.mk (Rp.row_move (G := fun q => (w.heap.size + 2 ≤ q ∧ ¬ M1 q) ∧ q < w1.heap.size) (fun q hq hl => ⟨⟨⟨by have := hq.1; omega, hq.2⟩, hl⟩, hl, rfl⟩) HQL.out)
  have HJ := As.mk (join_calls (cl := cr) (cf := cq) (HMM.out.pure (Upd.alloc1 (fun _ => False) w1 (.cells #[.bool (glu g x (s1, s2)).2.none, .slice Aq (glu g x (s1, s2)).2.first.length cq, .slice Ar (glu g x (s1, s2)).2.last.length cr] 221))) (Rp.row_pure HQl.out (Upd.alloc1 (fun _ => False) w1 _)) (Rp.row_pure HQf.out (Upd.alloc1 (fun _ => False) w1 _))
    (fun q hq _ hM => hq.1.2 hM) (fun q hq _ hM => hq.1.2 hM) (fun a ha => by have := hbd.last a ha; omega) (by omega) (by omega) (by omega) (fun y hy => by have := glu_fb g x (s1, s2) (1000000000 - 80000 * (1 + x.cnt)) (fun z hz => by have := HFB.out z hz; omega) (by omega) y hy; omega))
  obtain ⟨⟨e0, e1, e2⟩, _, _, _, el⟩ := cells3 heb
  have HEB := As.mk heb
  have HRB := As.mk hrb
  clear heb hrb
  go_wp2_with (go_at_call 193; refine HJ.out.mono ?_; rintro e w2 ⟨rfl, M2, fv2, vs2, hm2, hg2, hu2⟩; have HMJ := As.mk hm2; have HGJ := As.mk hg2; have HUJ := As.mk hu2; clear hm2 hg2 hu2; apply As.out)
  refine ⟨?_⟩
  have hal2 : (w1.alloc (.cells #[.bool (glu g x (s1, s2)).2.none, .slice Aq (glu g x (s1, s2)).2.first.length cq, .slice Ar (glu g x (s1, s2)).2.last.length cr] 221)).heap.size = w1.heap.size + 1 := by simp
  have hw2 : w1.heap.size + 1 ≤ w2.heap.size := by have := HUJ.out.size; omega
  have hrb2 : w2.heap[w.heap.size + 1]? = some (.cells #[.bool false, .slice none 0 0, .slice none 0 0] 221 (0, 0)) := (HUJ.out.block _ (by omega) (fun h => by rcases hM12 _ h with h | h; (have := hMl _ h; omega); omega)).trans ((Below.heap_alloc _ _ _ (by omega)).trans HRB.out)
  have heb2 : w2.heap[w.heap.size]? = some (.cells #[.int .i64 4, .string nm, .slice (some ⟨bA, oA, none⟩) 1 c] 92 (0, 0)) := (HUJ.out.block _ (by omega) (fun h => by rcases hM12 _ h with h | h; (have := hMl _ h; omega); omega)).trans ((Below.heap_alloc _ _ _ (by omega)).trans HEB.out)
  have hpb2 : w2.heap[w1.heap.size]? = some (.cells #[.bool (glu g x (s1, s2)).2.none, .slice Aq (glu g x (s1, s2)).2.first.length cq, .slice Ar (glu g x (s1, s2)).2.last.length cr] 221 (0, 0)) := (HUJ.out.block _ (by omega) (fun h => by have := hm1lt _ h; omega)).trans (heap_alloc_new w1 _)
  have hM2' : ∀ q, M2 q → M1 q ∨ w1.heap.size + 1 ≤ q := fun q hq => by
    rcases HGJ.out.2 q hq with h | h
    · exact .inl h
    · exact .inr (by have := h.1; omega)
  have HEND := As.mk (one_done (nn := true) (cf := cq) (cl := cr) (pb := w1.heap.size) HMJ.out (fun q hq => HGJ.out.1 q (HGG.out.1 q hq)) (fun q hq => by
      rcases hM2' q hq with h | h
      · exact hM12 q h
      · exact .inr (by omega)) hMl (by omega) hw1 (fun h => by rcases hM2' _ h with h | h; (have := hm1lt _ h; omega); omega) hrb2
    (Rp.row_fp (Rp.row_upd (Rp.row_pure HQf.out (Upd.alloc1 (fun _ => False) w1 _)) HUJ.out (fun q _ hq hM => hq.1.2 hM)) (fun q hq => ⟨⟨hq.1.1, fun hM => by rcases hM2' q hM with h | h; exact hq.1.2 h; have := hq.2; omega⟩, by have := hq.2; omega⟩))
    (Rp.row_fp (Rp.row_upd (Rp.row_pure HQl.out (Upd.alloc1 (fun _ => False) w1 _)) HUJ.out (fun q _ hq hM => hq.1.2 hM)) (fun q hq => ⟨⟨hq.1.1, fun hM => by rcases hM2' q hM with h | h; exact hq.1.2 h; have := hq.2; omega⟩, by have := hq.2; omega⟩))
    (Upd.trans HPW.out (Upd.trans (Upd.alloc1 M1 w1 _) HUJ.out (fun _ _ h => h)) (fun q hq h => by rcases hM12 q h with h | h; exact h; omega)))
  obtain ⟨⟨p0, p1, p2⟩, pf0, pf1, pf2, pl0⟩ := cells3 hpb2
  obtain ⟨⟨r0, r1, r2⟩, rf0, rf1, rf2, rl0⟩ := cells3 hrb2
  obtain ⟨⟨x0, x1, x2⟩, _, _, _, xl0⟩ := cells3 heb2
  have hne1 : w.heap.size + 1 ≠ w1.heap.size := by omega
  have hne2 : w1.heap.size ≠ w.heap.size + 1 := by omega
  have hne3 : w.heap.size ≠ w1.heap.size := by omega
  clear hpb2 hrb2 heb2
  cases hqn : (glu g x (s1, s2)).2.none
  all_goals
    simp only [hqn] at *
    go_wp2
    obtain ⟨he1, he2⟩ := HEND.out _ rfl
    refine build_ret (rb := w.heap.size + 1) rfl he1 rfl ?_
    rw [HV.out]
    first | exact he2 | simpa using he2
set_option maxRecDepth 100000 in
set_option maxHeartbeats 4000000 in
theorem build_one5 (nm : ByteArray) (x : Ex) (HI : BuildC x) (hcnt : x.cnt ≤ 199) : BuildC (.mk 5 nm [x]) := by
  intro w B M F G mb s b0 b1 b2 tv fv vs A Ag c cg g hsl0 hm hr hF hg hG hgl hs hfb
  obtain ⟨s1, s2⟩ := s
  have HII := As.mk HI
  have HM := As.mk hm
  have HR := As.mk hr
  have HF := As.mk hF
  have HG := As.mk hg
  have HGB := As.mk hG
  simp only at hsl0
  have hlb := (hm.low mb hm.mbM)
  have hc1 : (Ex.mk 5 nm [x]).cnt = 1 + x.cnt := by simp [Ex.cnt, Ex.cnts]
  rw [hc1] at hs hfb
  simp only at hs hfb
  have HV := As.mk (show glu g (.mk 5 nm [x]) (s1, s2) = (((glu g x (s1, s2)).1.1, joinF (glu g x (s1, s2)).1.2 (glu g x (s1, s2)).2.last (glu g x (s1, s2)).2.first), ⟨(glu g x (s1, s2)).2.none || decide ((5 : Int) ≠ 5), (glu g x (s1, s2)).2.first, (glu g x (s1, s2)).2.last⟩) by rw [glu]; simp [gluOne])
  have HS := As.mk hsl0
  have HFB := As.mk hfb
  obtain ⟨bA, oA, A1, c1, hAe, hFb, hbl, d0, d1, d2, hle1, hrow1⟩ := ex_at (j := 0) hr rfl
  subst hAe
  rw [show oA + 0 * 3 = oA by omega] at d0 d1 d2
  have HROW := As.mk hrow1
  have hbB := hF _ hFb
  clear hm hr hF hg hG hfb HI hc1 hsl0 hrow1
  show Calls Tryz.prog 165 #[.pointer (some ⟨mb, 0, none⟩), .agg #[.int .i64 5, .string nm, .slice (some ⟨bA, oA, none⟩) 1 c], .slice Ag g.length cg] w _
  go_enter Tryz.func165, Tryz.ntmps165
  have HBC := As.mk (fun (wz : World) (hz : Pure w wz) => HII.out wz B M F G mb (s1, s2) b0 b1 b2 tv fv vs A1 Ag c1 cg g HS.out (HM.out.pure hz) (Rp.row_pure HROW.out hz) HF.out (Rp.row_pure HG.out hz) HGB.out hgl (by simp only; omega) (fun y hy => by have := HFB.out y hy; omega))
  go_wp2_with (go_at_call 165; refine (HBC.out _ ((Upd.alloc1 _ _ _).alloc _)).mono ?_; rintro e w1 ⟨Aq, cq, Ar, cr, M1, tv1, fv1, vs1, rfl, hm1, hg1, hqf, hql, hu1⟩; have HMM := As.mk hm1; have HGG := As.mk hg1; have HQF := As.mk hqf; have HQL := As.mk hql; have HU1 := As.mk hu1; clear hm1 hg1 hqf hql hu1; apply As.out)
  refine ⟨?_⟩
  have hlow0 := HM.out.low mb HM.out.mbM
  have hMl : ∀ k, M k → k < w.heap.size := fun k hk => (HM.out.low k hk).2
  have hs0 : ((w.alloc (.cells #[.int .i64 5, .string nm, .slice (some ⟨bA, oA, none⟩) 1 c] 92)).alloc (.cells #[.bool false, .slice none 0 0, .slice none 0 0] 221)).heap.size = w.heap.size + 2 := by simp
  have hw1 : w.heap.size + 2 ≤ w1.heap.size := by have := HU1.out.size; omega
  have hrb : w1.heap[w.heap.size + 1]? = some (.cells #[.bool false, .slice none 0 0, .slice none 0 0] 221 (0, 0)) := (HU1.out.block _ (by omega) (fun h => by have := hMl _ h; omega)).trans (heap_alloc2_new w _ _)
  have heb : w1.heap[w.heap.size]? = some (.cells #[.int .i64 5, .string nm, .slice (some ⟨bA, oA, none⟩) 1 c] 92 (0, 0)) := (HU1.out.block _ (by omega) (fun h => by have := hMl _ h; omega)).trans (heap_alloc2_old w _ _)
  have hbd := glu_bd g x (s1, s2)
  have hqlen := hbd.len HS.out
  have hqhi := hbd.hi
  have hqlo := hbd.lo
  have hqfl := hbd.fl
  have hqll := hbd.ll
  simp only at hqhi hqlo
  have hm1lt : ∀ q, M1 q → q < w1.heap.size := fun q hq => (HMM.out.low q hq).2
  have hM12 : ∀ q, M1 q → M q ∨ w.heap.size + 2 ≤ q := fun q hq => by
    rcases HGG.out.2 q hq with h | h
    · exact .inl h
    · exact .inr (by have := h.1; omega)
  have HPW := As.mk (show Upd M w w1 from Upd.trans ((Upd.alloc1 M w _).alloc _) HU1.out (fun _ _ h => h))
  have HQf := As.mk (Rp.row_move (G := fun q => (w.heap.size + 2 ≤ q ∧ ¬ M1 q) ∧ q < w1.heap.size) (fun q hq hl => ⟨⟨⟨by have := hq.1; omega, hq.2⟩, hl⟩, hl, rfl⟩) HQF.out)
  have HQl := As.mk (Rp.row_move (G := fun q => (w.heap.size + 2 ≤ q ∧ ¬ M1 q) ∧ q < w1.heap.size) (fun q hq hl => ⟨⟨⟨by have := hq.1; omega, hq.2⟩, hl⟩, hl, rfl⟩) HQL.out)
  have HJ := As.mk (join_calls (cl := cr) (cf := cq) (HMM.out.pure (Upd.alloc1 (fun _ => False) w1 (.cells #[.bool (glu g x (s1, s2)).2.none, .slice Aq (glu g x (s1, s2)).2.first.length cq, .slice Ar (glu g x (s1, s2)).2.last.length cr] 221))) (Rp.row_pure HQl.out (Upd.alloc1 (fun _ => False) w1 _)) (Rp.row_pure HQf.out (Upd.alloc1 (fun _ => False) w1 _))
    (fun q hq _ hM => hq.1.2 hM) (fun q hq _ hM => hq.1.2 hM) (fun a ha => by have := hbd.last a ha; omega) (by omega) (by omega) (by omega) (fun y hy => by have := glu_fb g x (s1, s2) (1000000000 - 80000 * (1 + x.cnt)) (fun z hz => by have := HFB.out z hz; omega) (by omega) y hy; omega))
  obtain ⟨⟨e0, e1, e2⟩, _, _, _, el⟩ := cells3 heb
  have HEB := As.mk heb
  have HRB := As.mk hrb
  clear heb hrb
  go_wp2_with (go_at_call 193; refine HJ.out.mono ?_; rintro e w2 ⟨rfl, M2, fv2, vs2, hm2, hg2, hu2⟩; have HMJ := As.mk hm2; have HGJ := As.mk hg2; have HUJ := As.mk hu2; clear hm2 hg2 hu2; apply As.out)
  refine ⟨?_⟩
  have hal2 : (w1.alloc (.cells #[.bool (glu g x (s1, s2)).2.none, .slice Aq (glu g x (s1, s2)).2.first.length cq, .slice Ar (glu g x (s1, s2)).2.last.length cr] 221)).heap.size = w1.heap.size + 1 := by simp
  have hw2 : w1.heap.size + 1 ≤ w2.heap.size := by have := HUJ.out.size; omega
  have hrb2 : w2.heap[w.heap.size + 1]? = some (.cells #[.bool false, .slice none 0 0, .slice none 0 0] 221 (0, 0)) := (HUJ.out.block _ (by omega) (fun h => by rcases hM12 _ h with h | h; (have := hMl _ h; omega); omega)).trans ((Below.heap_alloc _ _ _ (by omega)).trans HRB.out)
  have heb2 : w2.heap[w.heap.size]? = some (.cells #[.int .i64 5, .string nm, .slice (some ⟨bA, oA, none⟩) 1 c] 92 (0, 0)) := (HUJ.out.block _ (by omega) (fun h => by rcases hM12 _ h with h | h; (have := hMl _ h; omega); omega)).trans ((Below.heap_alloc _ _ _ (by omega)).trans HEB.out)
  have hpb2 : w2.heap[w1.heap.size]? = some (.cells #[.bool (glu g x (s1, s2)).2.none, .slice Aq (glu g x (s1, s2)).2.first.length cq, .slice Ar (glu g x (s1, s2)).2.last.length cr] 221 (0, 0)) := (HUJ.out.block _ (by omega) (fun h => by have := hm1lt _ h; omega)).trans (heap_alloc_new w1 _)
  have hM2' : ∀ q, M2 q → M1 q ∨ w1.heap.size + 1 ≤ q := fun q hq => by
    rcases HGJ.out.2 q hq with h | h
    · exact .inl h
    · exact .inr (by have := h.1; omega)
  have HEND := As.mk (one_done (nn := (glu g x (s1, s2)).2.none) (cf := cq) (cl := cr) (pb := w1.heap.size) HMJ.out (fun q hq => HGJ.out.1 q (HGG.out.1 q hq)) (fun q hq => by
      rcases hM2' q hq with h | h
      · exact hM12 q h
      · exact .inr (by omega)) hMl (by omega) hw1 (fun h => by rcases hM2' _ h with h | h; (have := hm1lt _ h; omega); omega) hrb2
    (Rp.row_fp (Rp.row_upd (Rp.row_pure HQf.out (Upd.alloc1 (fun _ => False) w1 _)) HUJ.out (fun q _ hq hM => hq.1.2 hM)) (fun q hq => ⟨⟨hq.1.1, fun hM => by rcases hM2' q hM with h | h; exact hq.1.2 h; have := hq.2; omega⟩, by have := hq.2; omega⟩))
    (Rp.row_fp (Rp.row_upd (Rp.row_pure HQl.out (Upd.alloc1 (fun _ => False) w1 _)) HUJ.out (fun q _ hq hM => hq.1.2 hM)) (fun q hq => ⟨⟨hq.1.1, fun hM => by rcases hM2' q hM with h | h; exact hq.1.2 h; have := hq.2; omega⟩, by have := hq.2; omega⟩))
    (Upd.trans HPW.out (Upd.trans (Upd.alloc1 M1 w1 _) HUJ.out (fun _ _ h => h)) (fun q hq h => by rcases hM12 q h with h | h; exact h; omega)))
  obtain ⟨⟨p0, p1, p2⟩, pf0, pf1, pf2, pl0⟩ := cells3 hpb2
  obtain ⟨⟨r0, r1, r2⟩, rf0, rf1, rf2, rl0⟩ := cells3 hrb2
  obtain ⟨⟨x0, x1, x2⟩, _, _, _, xl0⟩ := cells3 heb2
  have hne1 : w.heap.size + 1 ≠ w1.heap.size := by omega
  have hne2 : w1.heap.size ≠ w.heap.size + 1 := by omega
  have hne3 : w.heap.size ≠ w1.heap.size := by omega
  clear hpb2 hrb2 heb2
  cases hqn : (glu g x (s1, s2)).2.none
  all_goals
    simp only [hqn] at *
    go_wp2
    obtain ⟨he1, he2⟩ := HEND.out _ rfl
    refine build_ret (rb := w.heap.size + 1) rfl he1 rfl ?_
    rw [HV.out]
    first | exact he2 | simpa using he2
set_option maxRecDepth 100000 in
set_option maxHeartbeats 4000000 in
theorem build_one6 (nm : ByteArray) (x : Ex) (HI : BuildC x) (hcnt : x.cnt ≤ 199) : BuildC (.mk 6 nm [x]) := by
  intro w B M F G mb s b0 b1 b2 tv fv vs A Ag c cg g hsl0 hm hr hF hg hG hgl hs hfb
  obtain ⟨s1, s2⟩ := s
  have HII := As.mk HI
  have HM := As.mk hm
  have HR := As.mk hr
  have HF := As.mk hF
  have HG := As.mk hg
  have HGB := As.mk hG
  simp only at hsl0
  have hlb := (hm.low mb hm.mbM)
  have hc1 : (Ex.mk 6 nm [x]).cnt = 1 + x.cnt := by simp [Ex.cnt, Ex.cnts]
  rw [hc1] at hs hfb
  simp only at hs hfb
  have HV := As.mk (show glu g (.mk 6 nm [x]) (s1, s2) = (((glu g x (s1, s2)).1.1, (glu g x (s1, s2)).1.2), ⟨(glu g x (s1, s2)).2.none || decide ((6 : Int) ≠ 5), (glu g x (s1, s2)).2.first, (glu g x (s1, s2)).2.last⟩) by rw [glu]; simp [gluOne])
  have HS := As.mk hsl0
  have HFB := As.mk hfb
  obtain ⟨bA, oA, A1, c1, hAe, hFb, hbl, d0, d1, d2, hle1, hrow1⟩ := ex_at (j := 0) hr rfl
  subst hAe
  rw [show oA + 0 * 3 = oA by omega] at d0 d1 d2
  have HROW := As.mk hrow1
  have hbB := hF _ hFb
  clear hm hr hF hg hG hfb HI hc1 hsl0 hrow1
  show Calls Tryz.prog 165 #[.pointer (some ⟨mb, 0, none⟩), .agg #[.int .i64 6, .string nm, .slice (some ⟨bA, oA, none⟩) 1 c], .slice Ag g.length cg] w _
  go_enter Tryz.func165, Tryz.ntmps165
  have HBC := As.mk (fun (wz : World) (hz : Pure w wz) => HII.out wz B M F G mb (s1, s2) b0 b1 b2 tv fv vs A1 Ag c1 cg g HS.out (HM.out.pure hz) (Rp.row_pure HROW.out hz) HF.out (Rp.row_pure HG.out hz) HGB.out hgl (by simp only; omega) (fun y hy => by have := HFB.out y hy; omega))
  go_wp2_with (go_at_call 165; refine (HBC.out _ ((Upd.alloc1 _ _ _).alloc _)).mono ?_; rintro e w1 ⟨Aq, cq, Ar, cr, M1, tv1, fv1, vs1, rfl, hm1, hg1, hqf, hql, hu1⟩; have HMM := As.mk hm1; have HGG := As.mk hg1; have HQF := As.mk hqf; have HQL := As.mk hql; have HU1 := As.mk hu1; clear hm1 hg1 hqf hql hu1; apply As.out)
  refine ⟨?_⟩
  have hlow0 := HM.out.low mb HM.out.mbM
  have hMl : ∀ k, M k → k < w.heap.size := fun k hk => (HM.out.low k hk).2
  have hs0 : ((w.alloc (.cells #[.int .i64 6, .string nm, .slice (some ⟨bA, oA, none⟩) 1 c] 92)).alloc (.cells #[.bool false, .slice none 0 0, .slice none 0 0] 221)).heap.size = w.heap.size + 2 := by simp
  have hw1 : w.heap.size + 2 ≤ w1.heap.size := by have := HU1.out.size; omega
  have hrb : w1.heap[w.heap.size + 1]? = some (.cells #[.bool false, .slice none 0 0, .slice none 0 0] 221 (0, 0)) := (HU1.out.block _ (by omega) (fun h => by have := hMl _ h; omega)).trans (heap_alloc2_new w _ _)
  have heb : w1.heap[w.heap.size]? = some (.cells #[.int .i64 6, .string nm, .slice (some ⟨bA, oA, none⟩) 1 c] 92 (0, 0)) := (HU1.out.block _ (by omega) (fun h => by have := hMl _ h; omega)).trans (heap_alloc2_old w _ _)
  have hbd := glu_bd g x (s1, s2)
  have hqlen := hbd.len HS.out
  have hqhi := hbd.hi
  have hqlo := hbd.lo
  have hqfl := hbd.fl
  have hqll := hbd.ll
  simp only at hqhi hqlo
  have hm1lt : ∀ q, M1 q → q < w1.heap.size := fun q hq => (HMM.out.low q hq).2
  have hM12 : ∀ q, M1 q → M q ∨ w.heap.size + 2 ≤ q := fun q hq => by
    rcases HGG.out.2 q hq with h | h
    · exact .inl h
    · exact .inr (by have := h.1; omega)
  have HPW := As.mk (show Upd M w w1 from Upd.trans ((Upd.alloc1 M w _).alloc _) HU1.out (fun _ _ h => h))
  have HQf := As.mk (Rp.row_move (G := fun q => (w.heap.size + 2 ≤ q ∧ ¬ M1 q) ∧ q < w1.heap.size) (fun q hq hl => ⟨⟨⟨by have := hq.1; omega, hq.2⟩, hl⟩, hl, rfl⟩) HQF.out)
  have HQl := As.mk (Rp.row_move (G := fun q => (w.heap.size + 2 ≤ q ∧ ¬ M1 q) ∧ q < w1.heap.size) (fun q hq hl => ⟨⟨⟨by have := hq.1; omega, hq.2⟩, hl⟩, hl, rfl⟩) HQL.out)
  have hrb2 : (w1.alloc (.cells #[.bool (glu g x (s1, s2)).2.none, .slice Aq (glu g x (s1, s2)).2.first.length cq, .slice Ar (glu g x (s1, s2)).2.last.length cr] 221)).heap[w.heap.size + 1]? = some (.cells #[.bool false, .slice none 0 0, .slice none 0 0] 221 (0, 0)) := (Below.heap_alloc _ _ _ (by omega)).trans hrb
  have heb2 : (w1.alloc (.cells #[.bool (glu g x (s1, s2)).2.none, .slice Aq (glu g x (s1, s2)).2.first.length cq, .slice Ar (glu g x (s1, s2)).2.last.length cr] 221)).heap[w.heap.size]? = some (.cells #[.int .i64 6, .string nm, .slice (some ⟨bA, oA, none⟩) 1 c] 92 (0, 0)) := (Below.heap_alloc _ _ _ (by omega)).trans heb
  have hpb2 : (w1.alloc (.cells #[.bool (glu g x (s1, s2)).2.none, .slice Aq (glu g x (s1, s2)).2.first.length cq, .slice Ar (glu g x (s1, s2)).2.last.length cr] 221)).heap[w1.heap.size]? = some (.cells #[.bool (glu g x (s1, s2)).2.none, .slice Aq (glu g x (s1, s2)).2.first.length cq, .slice Ar (glu g x (s1, s2)).2.last.length cr] 221 (0, 0)) := heap_alloc_new w1 _
  have HEND := As.mk (one_done (nn := true) (cf := cq) (cl := cr) (pb := w1.heap.size) (HMM.out.pure (Upd.alloc1 (fun _ => False) w1 (.cells #[.bool (glu g x (s1, s2)).2.none, .slice Aq (glu g x (s1, s2)).2.first.length cq, .slice Ar (glu g x (s1, s2)).2.last.length cr] 221))) (fun q hq => HGG.out.1 q hq) hM12 hMl (by omega) hw1 (fun h => by have := hm1lt _ h; omega) hrb2
    (Rp.row_fp (Rp.row_pure HQf.out (Upd.alloc1 (fun _ => False) w1 _)) (fun q hq => ⟨hq.1, by have := hq.2; omega⟩))
    (Rp.row_fp (Rp.row_pure HQl.out (Upd.alloc1 (fun _ => False) w1 _)) (fun q hq => ⟨hq.1, by have := hq.2; omega⟩))
    (Upd.trans HPW.out (Upd.alloc1 M w1 _) (fun q hq h => h)))
  clear heb hrb
  obtain ⟨⟨p0, p1, p2⟩, pf0, pf1, pf2, pl0⟩ := cells3 hpb2
  obtain ⟨⟨r0, r1, r2⟩, rf0, rf1, rf2, rl0⟩ := cells3 hrb2
  obtain ⟨⟨x0, x1, x2⟩, _, _, _, xl0⟩ := cells3 heb2
  have hne1 : w.heap.size + 1 ≠ w1.heap.size := by omega
  have hne2 : w1.heap.size ≠ w.heap.size + 1 := by omega
  have hne3 : w.heap.size ≠ w1.heap.size := by omega
  clear hpb2 hrb2 heb2
  generalize hW2 : (w1.alloc (.cells #[.bool (glu g x (s1, s2)).2.none, .slice Aq (glu g x (s1, s2)).2.first.length cq, .slice Ar (glu g x (s1, s2)).2.last.length cr] 221)) = w2 at *
  cases hqn : (glu g x (s1, s2)).2.none
  all_goals
    simp only [hqn] at *
    go_wp2
    obtain ⟨he1, he2⟩ := HEND.out _ rfl
    refine build_ret (rb := w.heap.size + 1) rfl he1 rfl ?_
    rw [HV.out]
    first | exact he2 | simpa using he2
/-- Every tree that is right. -/
theorem build_right (N : Nat) : ∀ (e : Ex) (i : Int), e.cnt ≤ N → e.okB i = true → e.cnt ≤ 200 → BuildC e := by
  induction N with
  | zero => intro e i he; have := e.cnt_pos; omega
  | succ N ih =>
    intro e i he hok hc
    obtain ⟨k, nm, l⟩ := e
    have hc1 : (Ex.mk k nm l).cnt = 1 + Ex.cnts l := by simp [Ex.cnt]
    by_cases h1 : k = 1
    · subst h1; exact build_name nm l
    · by_cases h2 : (k = 0 ∧ i ≠ 0) ∨ ((k = 2 ∨ k = 3) ∧ i = k) ∨ ¬ (k = 0 ∨ k = 2 ∨ k = 3 ∨ k = 4 ∨ k = 5 ∨ k = 6)
      · rw [right_early h1 h2] at hok; cases hok
      · rw [right_late h1 h2] at hok
        simp only [Bool.and_eq_true, decide_eq_true_eq] at hok
        obtain ⟨⟨⟨hall, _⟩, hlo⟩, hhi⟩ := hok
        rw [Ex.oksB_all, List.all_eq_true] at hall
        have hI : ∀ x ∈ l, BuildC x := fun x hx => ih x k (by have := Ex.cnt_mem hx; omega) (hall x hx) (by have := Ex.cnt_mem hx; omega)
        have h3 : k = 0 ∨ k = 2 ∨ k = 3 ∨ k = 4 ∨ k = 5 ∨ k = 6 := by omega
        rcases h3 with rfl | rfl | rfl | rfl | rfl | rfl
        · exact build_none nm l
        · exact build_seq nm l hI (by omega)
        · exact build_alt nm l hI (by omega)
        · match l, hlo, hhi with
          | [x], _, _ => exact build_one4 nm x (hI x (by simp)) (by have := Ex.cnt_mem (x := x) (l := [x]) (by simp); omega)
          | [], h, _ => simp [leastE] at h
          | _ :: _ :: _, _, h => simp [mostE] at h
        · match l, hlo, hhi with
          | [x], _, _ => exact build_one5 nm x (hI x (by simp)) (by have := Ex.cnt_mem (x := x) (l := [x]) (by simp); omega)
          | [], h, _ => simp [leastE] at h
          | _ :: _ :: _, _, h => simp [mostE] at h
        · match l, hlo, hhi with
          | [x], _, _ => exact build_one6 nm x (hI x (by simp)) (by have := Ex.cnt_mem (x := x) (l := [x]) (by simp); omega)
          | [], h, _ => simp [leastE] at h
          | _ :: _ :: _, _, h => simp [mostE] at h
end Go.Proofs.YtofjodppljnlaaaGreatDoor
namespace Go.Proofs.YtofjodppljnlaaaGreatDoor
open Go.RowKit
set_option linter.unusedVariables false
set_option linter.unusedSimpArgs false
abbrev AnyB : Nat → Prop := fun _ => True
/-- A machine that is read; all of it lies below N. -/
def Mac (w : World) (N mb : Nat) (ts fs : List (List Int)) (p : Part) : Prop :=
  mb < N ∧ N ≤ w.heap.size ∧ ∃ At ct Ag cg Af cf Al cl, w.heap[mb]? = some (.cells #[.slice At ts.length ct, .slice Ag fs.length cg, .bool p.none, .slice Af p.first.length cf, .slice Al p.last.length cl] 223 (0, 0)) ∧
    intR.slice.row w (fun k => k < N) At ts ∧ intR.slice.row w (fun k => k < N) Ag fs ∧ intR.row w (fun k => k < N) Af p.first ∧ intR.row w (fun k => k < N) Al p.last
theorem Mac.upd {w w1 : World} {S : Nat → Prop} {N mb : Nat} {ts fs : List (List Int)} {p : Part} (h : Mac w N mb ts fs p) (hu : Upd S w w1) (hS : ∀ k, S k → N ≤ k) : Mac w1 N mb ts fs p := by
  obtain ⟨hm, hN, At, ct, Ag, cg, Af, cf, Al, cl, hb, h1, h2, h3, h4⟩ := h
  have hk : ∀ k, k < w.heap.size → k < N → ¬ S k := fun k _ hk h => by have := hS k h; omega
  exact ⟨hm, Nat.le_trans hN hu.size, At, ct, Ag, cg, Af, cf, Al, cl, (hu.block _ (Array.getElem?_eq_some_iff.1 hb).1 (fun h => by have := hS _ h; omega)).trans hb, Rp.row_upd h1 hu hk, Rp.row_upd h2 hu hk, Rp.row_upd h3 hu hk, Rp.row_upd h4 hu hk⟩
theorem Mac.pure {w w1 : World} {N mb : Nat} {ts fs : List (List Int)} {p : Part} (h : Mac w N mb ts fs p) (hu : Pure w w1) : Mac w1 N mb ts fs p := h.upd hu (fun _ h => h.elim)
theorem Foll.own' {w : World} {M : Nat → Prop} {v : Value} {fs : List (List Int)} {vs : List Value} (h : Foll w M v fs vs) : intR.slice.own 83 w AnyB v fs := by
  have hl : vs.length = fs.length := by simpa using h.own.1
  refine ⟨vs, h.own, fun _ _ => trivial, by simpa [Rp.slice] using hl, fun j x hx => ?_⟩
  have hj : j < vs.length := by rw [hl]; exact (List.getElem?_eq_some_iff.1 hx).1
  obtain ⟨ho, _⟩ := h.each j vs[j] x (List.getElem?_eq_getElem hj) hx
  obtain ⟨A, c, he, hlc, hr⟩ := Rp.own_slice ho
  have e1 : (vs.drop (j * intR.slice.sz)).take intR.slice.sz = [vs[j]] := by
    show (vs.drop (j * 1)).take 1 = _
    rw [Nat.mul_one, List.drop_eq_getElem_cons hj]
    rfl
  rw [e1, he]
  refine ⟨A, c, rfl, hlc, Rp.row_fp hr (fun k hk => ⟨trivial, ?_⟩)⟩
  intro hk'
  obtain ⟨inner, h7, _⟩ := ho
  exact own_ne h7 h.own (by decide) k hk hk'.symm
theorem Mach.mac {w : World} {B : Nat} {M : Nat → Prop} {mb : Nat} {ts fs : List (List Int)} {p : Part} {Af Al : Option Addr} {cf cl : Nat} {tv fv : Value} {vs : List Value} (h : Mach w B M mb ts fs (.bool p.none) (.slice Af p.first.length cf) (.slice Al p.last.length cl) tv fv vs) {F1 F2 : Nat → Prop} (hf : intR.row w F1 Af p.first) (hl : intR.row w F2 Al p.last) : Mac w w.heap.size mb ts fs p := by
  obtain ⟨At, ct, rfl, _, ht⟩ := Rp.own_slice h.types
  obtain ⟨Ag, cg, rfl, _, hg⟩ := Rp.own_slice h.foll.own'
  exact ⟨(h.low mb h.mbM).2, Nat.le_refl _, At, ct, Ag, cg, Af, cf, Al, cl, h.blk, Rp.row_move (fun _ _ hl => ⟨hl, hl, rfl⟩) ht, Rp.row_move (fun _ _ hl => ⟨hl, hl, rfl⟩) hg, Rp.row_move (fun _ _ hl => ⟨hl, hl, rfl⟩) hf, Rp.row_move (fun _ _ hl => ⟨hl, hl, rfl⟩) hl⟩
/-- What begins is laid into the machine. -/
theorem Mach.begin {w : World} {B : Nat} {M : Nat → Prop} {mb : Nat} {ts fs : List (List Int)} {b0 b1 b2 tv fv : Value} {vs : List Value} (h : Mach w B M mb ts fs b0 b1 b2 tv fv vs) (c0 c1 c2 : Value) :
    Mach (((w.setCell ⟨mb, 2, none⟩ c0).setCell ⟨mb, 3, none⟩ c1).setCell ⟨mb, 4, none⟩ c2) B M mb ts fs c0 c1 c2 tv fv vs ∧ Upd (fun k => k = mb) w (((w.setCell ⟨mb, 2, none⟩ c0).setCell ⟨mb, 3, none⟩ c1).setCell ⟨mb, 4, none⟩ c2) := by
  have hu : Upd (fun k => k = mb) w (((w.setCell ⟨mb, 2, none⟩ c0).setCell ⟨mb, 3, none⟩ c1).setCell ⟨mb, 4, none⟩ c2) :=
    (((Upd.refl (fun k => k = mb) w).setCell (p := ⟨mb, 2, none⟩) (fun _ => rfl) _).setCell (p := ⟨mb, 3, none⟩) (fun _ => rfl) _).setCell (p := ⟨mb, 4, none⟩) (fun _ => rfl) _
  obtain ⟨ti, hto, _⟩ := h.types
  refine ⟨⟨by simp [World.setCell, Array.getElem?_modify, h.blk], h.mbM, fun k hk => ⟨(h.low k hk).1, by simpa [World.setCell] using (h.low k hk).2⟩, Rp.own_upd h.types hu (fun k _ hk he => ?_), h.typesM, h.foll.upd2 hu ?_ ?_ (fun _ h => h), h.apart⟩, hu⟩
  · subst he
    rcases hk with hk | hk
    · have := (h.low k h.mbM).1; omega
    · exact own_ne_block hto h.blk (by decide) hk
  · rintro k hk rfl
    exact own_ne_block h.foll.own h.blk (by decide) hk
  · rintro u hu' k hk rfl
    obtain ⟨n, inner, h5, _⟩ := h.foll.int hu'
    exact own_ne_block h5 h.blk (by decide) hk
theorem exprCheck_zero {e : Ex} (h : exprCheck e = 0) : e.cnt ≤ 200 ∧ e.okB 0 = true := by
  unfold exprCheck at h
  split at h
  · simp at h
  · split at h
    · simp at h
    · rename_i h1 h2
      exact ⟨by omega, by simpa using h2⟩
theorem regCheck_zero {e : Ex} {g : List Grp} (h : regCheck e g = 0) : exprCheck e = 0 ∧ longB g = false ∧ e.namedB g = true := by
  unfold regCheck at h
  split at h
  · rename_i h1; exact absurd h h1
  · rename_i h1
    split at h
    · simp at h
    · split at h
      · simp at h
      · rename_i h2 h3
        exact ⟨by simpa using h1, by simpa using h2, by simpa using h3⟩
set_option maxRecDepth 100000 in
set_option maxHeartbeats 4000000 in
theorem made_none {F G : Nat → Prop} {A B : Option Addr} {c d : Nat} {e : Ex} {g : List Grp} {w : World} (hr : exR.row w F A e.l) (hg : grpR.row w G B g) (hb : e.wt ≤ 1048576 * 4) (hgl : g.length ≤ 1048576) (hgt : ∀ x ∈ g, x.types.length ≤ 1048576) (h : regCheck e g ≠ 0) :
    Calls Tryz.prog 128 #[e.val A c, .slice B g.length d] w fun r w' => r = .returned (.pointer none) ∧ Pure w w' := by
  have e0 : (regCheck e g != 0) = true := by simp [h]
  have HC := As.mk (fun (W : World) (hu : Pure w W) => regCheck_calls (c := c) (d := d) (Rp.row_pure hr hu) (Rp.row_pure hg hu) hb hgl hgt)
  obtain ⟨k0, nm, l⟩ := e
  generalize regCheck (.mk k0 nm l) g = v at *
  clear h hr hg
  show Calls Tryz.prog 128 #[.agg #[.int .i64 k0, .string nm, .slice A l.length c], .slice B g.length d] w _
  go_enter Tryz.func128, Tryz.ntmps128
  go_wp2_with (go_at_call 125; refine (HC.out _ (Upd.alloc1 _ _ _)).mono ?_; rintro e w1 ⟨rfl, hu⟩; have HU := As.mk (Upd.trans (Upd.alloc1 (fun _ => False) _ _) hu (fun _ _ h => h)); clear hu)
  go_ret
  exact ⟨rfl, HU.out⟩
set_option maxRecDepth 100000 in
set_option maxHeartbeats 4000000 in
theorem made_some {F G : Nat → Prop} {A Bg : Option Addr} {c d : Nat} {e : Ex} {g : List Grp} {w : World} (hr : exR.row w F A e.l) (hg : grpR.row w G Bg g) (hF : ∀ k, F k → k < w.heap.size) (hG : ∀ k, G k → k < w.heap.size) (hb : e.wt ≤ 1048576 * 4) (hgl : g.length ≤ 1048576) (hgt : ∀ x ∈ g, x.types.length ≤ 1048576) (h : regCheck e g = 0) :
    Calls Tryz.prog 128 #[e.val A c, .slice Bg g.length d] w fun r w' => ∃ mb, r = .returned (.pointer (some ⟨mb, 0, none⟩)) ∧ Mac w' w'.heap.size mb (glu g e ([], [])).1.1 (glu g e ([], [])).1.2 (glu g e ([], [])).2 ∧ Pure w w' := by
  obtain ⟨hx, _, _⟩ := regCheck_zero h
  obtain ⟨hcnt, hok⟩ := exprCheck_zero hx
  have HBC := As.mk (build_right 200 e 0 hcnt hok hcnt)
  have HC := As.mk (fun (W : World) (hu : Pure w W) => regCheck_calls (c := c) (d := d) (Rp.row_pure hr hu) (Rp.row_pure hg hu) hb hgl hgt)
  rw [h] at HC
  have HR := As.mk hr
  have HG := As.mk hg
  have HF := As.mk hF
  have HGB := As.mk hG
  obtain ⟨k0, nm, l⟩ := e
  clear h hr hg hF hG hx hok
  show Calls Tryz.prog 128 #[.agg #[.int .i64 k0, .string nm, .slice A l.length c], .slice Bg g.length d] w _
  go_enter Tryz.func128, Tryz.ntmps128
  go_wp2_with (go_at_call 125; refine (HC.out _ (Upd.alloc1 _ _ _)).mono ?_; rintro e w1 ⟨rfl, hu⟩; have HU := As.mk (Upd.trans (Upd.alloc1 (fun _ => False) _ _) hu (fun _ _ h => h)); have hz := hu.size; have heb := (hu.block w.heap.size (by simp) (fun h => h)).trans (heap_alloc_new w _); clear hu; apply As.out)
  refine ⟨?_⟩
  have hw1 : w.heap.size + 1 ≤ w1.heap.size := by simpa using hz
  have hmach : Mach (w1.alloc (.cells #[.slice none 0 0, .slice none 0 0, .bool false, .slice none 0 0, .slice none 0 0] 223)) w1.heap.size (fun k => k = w1.heap.size) w1.heap.size [] [] (.bool false) (.slice none 0 0) (.slice none 0 0) (.slice none 0 0) (.slice none 0 0) [] :=
    ⟨heap_alloc_new w1 _, rfl, fun k hk => by subst hk; simp, Rp.own_nil _ _ _ _, fun k hk => by simp [Value.ownBlock] at hk, ⟨World.ownsRow_nil _ _ _ _, fun k hk => by simp [Value.ownBlock] at hk, fun i u x hu => by simp at hu, fun i j u u' k hu => by simp at hu⟩, fun k hk => by simp [Value.ownBlock] at hk⟩
  have HB2 := As.mk (HBC.out _ _ _ F G w1.heap.size ([], []) _ _ _ _ _ _ A Bg c d g rfl hmach (Rp.row_pure HR.out (HU.out.alloc _)) (fun k hk => by have := HF.out k hk; omega) (Rp.row_pure HG.out (HU.out.alloc _)) (fun k hk => by have := HGB.out k hk; omega) hgl (by simp only [List.length_nil]; omega) (fun y hy => by cases hy))
  obtain ⟨⟨x0, x1, x2⟩, _, _, _, hel⟩ := cells3 heb
  have HM0 := As.mk hmach
  clear hmach heb hz
  go_wp2_with (go_at_call 165; refine HB2.out.mono ?_; rintro e w2 ⟨Aq, cq, Ar, cr, M1, tv1, fv1, vs1, rfl, hm1, hg1, hqf, hql, hu1⟩; have HMM := As.mk hm1; have HGG := As.mk hg1; have HQF := As.mk hqf; have HQL := As.mk hql; have HU1 := As.mk hu1; clear hm1 hg1 hqf hql hu1; apply As.out)
  refine ⟨?_⟩
  have hblk := HMM.out.blk
  have hmb0 : w2.cell? ⟨w1.heap.size, 2, none⟩ = some (.bool false) := by unfold World.cell?; simp only [hblk]; rfl
  have hmb1 : w2.cell? ⟨w1.heap.size, 3, none⟩ = some (.slice none 0 0) := by unfold World.cell?; simp only [hblk]; rfl
  have hmb2 : w2.cell? ⟨w1.heap.size, 4, none⟩ = some (.slice none 0 0) := by unfold World.cell?; simp only [hblk]; rfl
  have f0 : w2.frozen? ⟨w1.heap.size, 2, none⟩ = false := by simp [World.frozen?, hblk]
  have f1 : w2.frozen? ⟨w1.heap.size, 3, none⟩ = false := by simp [World.frozen?, hblk]
  have f2 : w2.frozen? ⟨w1.heap.size, 4, none⟩ = false := by simp [World.frozen?, hblk]
  have hml := (Array.getElem?_eq_some_iff.1 hblk).1
  have hbeg := Mach.begin HMM.out (.bool (glu g (.mk k0 nm l) ([], [])).2.none) (.slice Aq (glu g (.mk k0 nm l) ([], [])).2.first.length cq) (.slice Ar (glu g (.mk k0 nm l) ([], [])).2.last.length cr)
  have HBG := As.mk hbeg
  clear hbeg hblk
  go_wp2
  go_ret
  have hne : ∀ (q : Nat), (w1.alloc (.cells #[.slice none 0 0, .slice none 0 0, .bool false, .slice none 0 0, .slice none 0 0] 223)).heap.size ≤ q ∧ ¬ M1 q → q ≠ w1.heap.size := fun q hq he => by have := hq.1; simp at this; omega
  refine ⟨w1.heap.size, rfl, HBG.out.1.mac (Rp.row_upd HQF.out HBG.out.2 (fun q _ hq he => hne q hq he)) (Rp.row_upd HQL.out HBG.out.2 (fun q _ hq he => hne q hq he)), ?_⟩
  have u1 : Upd (fun k => k = w1.heap.size) w1 w2 := Upd.trans (Upd.alloc1 _ w1 _) HU1.out (fun _ _ h => h)
  exact Upd.trans HU.out (Upd.trans u1 HBG.out.2 (fun _ _ h => h)) (fun q hq h => by omega)
end Go.Proofs.YtofjodppljnlaaaGreatDoor
namespace Go.Proofs.YtofjodppljnlaaaGreatDoor
open Go.RowKit
open Go.Maps (Keyed)
set_option linter.unusedVariables false
set_option linter.unusedSimpArgs false
theorem keyed_int : Keyed Tryz.prog 3 := Maps.int_keyed Tryz.underlying3
/-- Block b is a set of ints, of at most n. -/
def SetM (w : World) (b n : Nat) (S : Int → Bool) : Prop := ∃ D : DataW Unit, w.ownsMap Tryz.prog 3 (plainElem Tryz.prog 4) b n D ∧ ∀ x, (Lit.int .i64 x).wf = true → Maps.has D (.int .i64 x) = S x
theorem SetM.made (w : World) : SetM (w.alloc (.map #[] 0)) w.heap.size 0 (fun _ => false) := ⟨.map [], World.ownsMap_made _ _ _ _, fun x _ => rfl⟩
theorem SetM.kept {w w1 : World} {b n : Nat} {S : Int → Bool} {R : Nat → Prop} (h : SetM w b n S) (hu : Upd R w w1) (hR : ¬ R b) : SetM w1 b n S := by
  obtain ⟨D, hD, hS⟩ := h
  obtain ⟨es, clock, h1, h2⟩ := hD
  exact ⟨D, ⟨es, clock, by rw [hu.block b (Array.getElem?_eq_some_iff.1 h1).1 hR]; exact h1, h2⟩, hS⟩
theorem SetM.lt {w : World} {b n : Nat} {S : Int → Bool} (h : SetM w b n S) : b < w.heap.size := by
  obtain ⟨D, hD, _⟩ := h
  exact hD.lt
theorem has_put {D : DataW Unit} (hD : Maps.IsMap D) (x y : Int) (d : DataW Unit) (hx : (Lit.int .i64 x).wf = true) : Maps.has (D.put (.int .i64 x) d) (.int .i64 y) = (Maps.has D (.int .i64 y) || decide (y = x)) := by
  by_cases h : y = x
  · subst h
    rw [Maps.has_put_same hD (by trivial) d]
    simp
  · rw [Maps.has_put_other (by simpa using h) d]
    simp [h]
end Go.Proofs.YtofjodppljnlaaaGreatDoor
namespace Go.Proofs.YtofjodppljnlaaaGreatDoor
open Go.RowKit
open Go.Maps (Keyed)
set_option linter.unusedVariables false
set_option linter.unusedSimpArgs false
/-- Which places of a list a type may come to. -/
def addS (ts : List (List Int)) (t : Int) (l : List Int) (y : Int) : Bool := l.any (fun a => decide (a = y) && decide (t ∈ ts.getD a.toNat []))
theorem tyrow_at {w : World} {R : Nat → Prop} {A : Option Addr} {ts : List (List Int)} (h : intR.slice.row w R A ts) {n : Nat} {x : List Int} (hx : ts[n]? = some x) :
    ∃ b o A1 c1, A = some ⟨b, o, none⟩ ∧ b < w.heap.size ∧ w.cell? ⟨b, o + n, none⟩ = some (.slice A1 x.length c1) ∧ intR.row w R A1 x := by
  obtain ⟨b, o, cs, hA, _, hb, ⟨A1, c1, rfl, _, hr⟩, hc⟩ := Rp.row_at h hx
  have := hc 0 _ rfl
  rw [show intR.slice.sz = 1 from rfl, Nat.mul_one, Nat.add_zero] at this
  exact ⟨b, o, A1, c1, hA, hb, this, hr⟩
theorem addS_succ {ts : List (List Int)} {t : Int} {l : List Int} {k : Nat} {a : Int} (ha : l[k]? = some a) (y : Int) : addS ts t (l.take (k + 1)) y = (addS ts t (l.take k) y || (decide (a = y) && decide (t ∈ ts.getD a.toNat []))) := by
  unfold addS
  rw [List.take_add_one, ha, List.any_append]
  simp
theorem SetM.mono {w : World} {b n n' : Nat} {S : Int → Bool} (h : SetM w b n S) (hn : n ≤ n') : SetM w b n' S := by
  obtain ⟨D, hD, hS⟩ := h
  exact ⟨D, hD.mono hn, hS⟩
theorem SetM.same {w : World} {b n : Nat} {S S' : Int → Bool} (h : SetM w b n S) (hn : ∀ x, S x = S' x) : SetM w b n S' := by
  have e : S = S' := funext hn
  rw [← e]
  exact h
set_option maxRecDepth 100000 in
set_option maxHeartbeats 4000000 in
theorem add_calls {w : World} {N mb bm bt bo ob n : Nat} {ts fs : List (List Int)} {p : Part} {t : Int} {S : Int → Bool} {F : Nat → Prop} {A : Option Addr} {c : Nat} {l : List Int} (hM : Mac w N mb ts fs p) (hNo : N ≤ ob) (hm : w.cell? ⟨bm, 0, none⟩ = some (.pointer (some ⟨mb, 0, none⟩))) (ht : w.cell? ⟨bt, 0, none⟩ = some (.int .i64 t)) (ho : w.cell? ⟨bo, 0, none⟩ = some (.map (some ob)))
    (hlm : bm < w.heap.size) (hltt : bt < w.heap.size) (hlo : bo < w.heap.size) (hne : ∀ k, k = mb ∨ k = bm ∨ k = bt ∨ k = bo → k ≠ ob) (hS : SetM w ob n S) (hr : intR.row w F A l) (hF : ∀ k, F k → k < N) (hrng : ∀ a ∈ l, 0 ≤ a ∧ a < ts.length) (hb : l.length ≤ 1048576 * 1000) (hn : n + l.length ≤ 1048576 * 1048576) (htl : ∀ x ∈ ts, x.length ≤ 1048576) (hts : ts.length ≤ 1048576) :
    Calls Tryz.prog 194 #[.slice A l.length c, .pointer (some ⟨bm, 0, none⟩), .pointer (some ⟨bt, 0, none⟩), .pointer (some ⟨bo, 0, none⟩)] w fun r w' => r = .returned (.tuple #[]) ∧ SetM w' ob (n + l.length) (fun y => S y || addS ts t l y) ∧ Upd (fun k => k = ob) w w' := by
  have HM := As.mk hM
  have HR := As.mk hr
  have HG := As.mk hrng
  have HS := As.mk hS
  have HTL := As.mk htl
  have HNE := As.mk hne
  have HC := As.mk (And.intro hm (And.intro ht ho))
  clear hM hr hrng hS htl hne hm ht ho
  go_enter Tryz.func194, Tryz.ntmps194
  go_wp2
  go_loopg [9] l.length (fun g i wr => ∃ k : Nat, k + g = l.length ∧ i = .int .i64 k ∧ As (SetM wr ob (n + k) (fun y => S y || addS ts t (l.take k) y) ∧ Upd (fun k => k = ob) w wr))
  case atStart => exact ⟨0, by omega, rfl, ⟨by simpa [addS] using HS.out, Upd.refl _ _⟩⟩
  case round =>
    obtain ⟨k, hk, rfl, HP⟩ := hrel
    obtain ⟨hset, hu⟩ := HP.out
    by_cases hlt : k < l.length
    · obtain ⟨x, hx⟩ : ∃ x, l[k]? = some x := ⟨_, List.getElem?_eq_getElem hlt⟩
      obtain ⟨g1, rfl⟩ : ∃ m, gk = m + 1 := ⟨gk - 1, by omega⟩
      obtain ⟨b, o, rfl, hFb, hbb, d0⟩ := int_at (Rp.row_upd HR.out hu (fun q _ hq he => by have := hF q hq; omega)) hx
      obtain ⟨hx0, hx1⟩ := HG.out x (List.mem_of_getElem? hx)
      obtain ⟨a, rfl⟩ : ∃ a : Nat, x = a := ⟨x.toNat, by omega⟩
      obtain ⟨hmN, hNw, At, ct, Ag, cg, Af, cf, Al, cl, hbk, hty, _, _, _⟩ := HM.out.upd hu (fun q hq => by omega)
      obtain ⟨y, hy⟩ : ∃ y, ts[a]? = some y := ⟨_, List.getElem?_eq_getElem (by omega)⟩
      obtain ⟨tb, to1, A1, c1, rfl, htb, d1, hyr⟩ := tyrow_at hty hy
      have hyl := HTL.out y (List.mem_of_getElem? hy)
      have m0 : wr.cell? ⟨mb, 0, none⟩ = some (.slice (some ⟨tb, to1, none⟩) ts.length ct) := by unfold World.cell?; simp only [hbk]; rfl
      obtain ⟨hcm, hct, hco⟩ := HC.out
      have k1 : wr.cell? ⟨bm, 0, none⟩ = some (.pointer (some ⟨mb, 0, none⟩)) := (hu.cell hlm (HNE.out bm (by simp))).trans hcm
      have k2 : wr.cell? ⟨bt, 0, none⟩ = some (.int .i64 t) := (hu.cell hltt (HNE.out bt (by simp))).trans hct
      have k3 : wr.cell? ⟨bo, 0, none⟩ = some (.map (some ob)) := (hu.cell hlo (HNE.out bo (by simp))).trans hco
      have HS1 := As.mk hset
      have HU1 := As.mk hu
      have HYR := As.mk hyr
      have HAS := As.mk (fun z => addS_succ (ts := ts) (t := t) hx z)
      have hgd : ts.getD ((a : Int).toNat) [] = y := by simp [List.getD, hy]
      rw [hgd] at HAS
      have HK := As.mk hk
      have ha1 : (a : Int) < (ts.length : Int) := by omega
      have HQ := As.mk (show wr.drew.cell? ⟨bm, 0, none⟩ = some (.pointer (some ⟨mb, 0, none⟩)) ∧ wr.drew.cell? ⟨mb, 0, none⟩ = some (.slice (some ⟨tb, to1, none⟩) ts.length ct) ∧ wr.drew.cell? ⟨tb, to1 + a, none⟩ = some (.slice A1 y.length c1) ∧ wr.drew.cell? ⟨bt, 0, none⟩ = some (.int .i64 t) from ⟨k1, m0, d1, k2⟩)
      clear hk hx hset hu hyr hty hbk hy k1 k2 m0 hcm hct hco hgd
      cases hq : decide (t ∈ y)
      · rw [hq] at HAS
        go_wp2
        refine wp_region_held_drew (S := (fun v => v.cell? ⟨bm, 0, none⟩ = some (.pointer (some ⟨mb, 0, none⟩)) ∧ v.cell? ⟨mb, 0, none⟩ = some (.slice (some ⟨tb, to1, none⟩) ts.length ct) ∧ v.cell? ⟨tb, to1 + a, none⟩ = some (.slice A1 y.length c1) ∧ v.cell? ⟨bt, 0, none⟩ = some (.int .i64 t))) (by kernel_rfl) ?_ (fun hHeld => ?_)
        · exact HQ.out
        refine zH 0 ?_
        (try simp only [Act.put, sA, sB, sC])
        refine zH 1 ?_
        (try simp only [Act.put, sA, sB, sC])
        refine zH 2 ?_
        (try simp only [Act.put, sA, sB, sC])
        refine zH 3 ?_
        (try simp only [Act.put, sA, sB, sC])
        refine zH 4 ?_
        (try simp only [Act.put, sA, sB, sC])
        refine zH 5 ?_
        (try simp only [Act.put, sA, sB, sC])
        refine zH 6 ?_
        (try simp only [Act.put, sA, sB, sC])
        refine zH 7 ?_
        (try simp only [Act.put, sA, sB, sC])
        refine wpAnyH_ready (rs := [8]) (by kernel_rfl) (by simp) (AllReadyH.cons (o := { dst := (some 21), op := (Go.Op.call { callee := (Go.Callee.value (Go.Operand.func 167)), args := #[(Go.Operand.tmp 19), (Go.Operand.tmp 20)], argTypes := #[83, 3] }), type := 4, pos := "reg.go:133", after := #[{ on := 6, ground := Go.Ground.data }, { on := 7, ground := Go.Ground.data }], guard := none }) rfl (fun K hK => ?_) AllReadyH.nil)
        go_simp
        (go_at_call 167; refine (Contains_calls t (Rp.row_pure HYR.out ((Upd.refl (fun _ => False) wr).drew)) (by omega)).mono ?_; rintro e w1 ⟨rfl, rfl⟩; rw [hq])
        refine hK.out _ _ (by exact HQ.out) (fun hHeld => ?_)
        clear hK K
        (try simp only [Act.put, sA, sB, sC])
        refine wpAnyH_done (by kernel_rfl) ?_ _
        go_wp2
        go_roundg g1
        case measure => omega
        case rel => exact ⟨k + 1, by have := HK.out; omega, by go_num, ⟨((HS1.out.mono (Nat.le_succ _)).same (fun z => by rw [HAS.out z]; simp)).kept ((Upd.refl (fun _ => False) wr).drew) (fun h => h), HU1.out.drew⟩⟩
      · rw [hq] at HAS
        obtain ⟨D, hD, hSD⟩ := HS1.out
        have HD := As.mk hD
        have HSD := As.mk hSD
        have HWF := As.mk (WalkArith.wf_i64 (n := (a : Int)) (by omega))
        have k3d : wr.drew.cell? ⟨bo, 0, none⟩ = some (.map (some ob)) := k3
        clear hD hSD
        go_wp2
        refine wp_region_held_drew (S := (fun v => v.cell? ⟨bm, 0, none⟩ = some (.pointer (some ⟨mb, 0, none⟩)) ∧ v.cell? ⟨mb, 0, none⟩ = some (.slice (some ⟨tb, to1, none⟩) ts.length ct) ∧ v.cell? ⟨tb, to1 + a, none⟩ = some (.slice A1 y.length c1) ∧ v.cell? ⟨bt, 0, none⟩ = some (.int .i64 t))) (by kernel_rfl) ?_ (fun hHeld => ?_)
        · exact HQ.out
        refine zH 0 ?_
        (try simp only [Act.put, sA, sB, sC])
        refine zH 1 ?_
        (try simp only [Act.put, sA, sB, sC])
        refine zH 2 ?_
        (try simp only [Act.put, sA, sB, sC])
        refine zH 3 ?_
        (try simp only [Act.put, sA, sB, sC])
        refine zH 4 ?_
        (try simp only [Act.put, sA, sB, sC])
        refine zH 5 ?_
        (try simp only [Act.put, sA, sB, sC])
        refine zH 6 ?_
        (try simp only [Act.put, sA, sB, sC])
        refine zH 7 ?_
        (try simp only [Act.put, sA, sB, sC])
        refine wpAnyH_ready (rs := [8]) (by kernel_rfl) (by simp) (AllReadyH.cons (o := { dst := (some 21), op := (Go.Op.call { callee := (Go.Callee.value (Go.Operand.func 167)), args := #[(Go.Operand.tmp 19), (Go.Operand.tmp 20)], argTypes := #[83, 3] }), type := 4, pos := "reg.go:133", after := #[{ on := 6, ground := Go.Ground.data }, { on := 7, ground := Go.Ground.data }], guard := none }) rfl (fun K hK => ?_) AllReadyH.nil)
        go_simp
        (go_at_call 167; refine (Contains_calls t (Rp.row_pure HYR.out ((Upd.refl (fun _ => False) wr).drew)) (by omega)).mono ?_; rintro e w1 ⟨rfl, rfl⟩; rw [hq])
        refine hK.out _ _ (by exact HQ.out) (fun hHeld => ?_)
        clear hK K
        (try simp only [Act.put, sA, sB, sC])
        refine wpAnyH_done (by kernel_rfl) ?_ _
        go_wp2_with (at_mapUpdate; refine wpList_mapUpdate_own _ rfl _ _ _ 175 rfl 3 4 keyed_int Tryz.underlying175 _ ob (n + k) D rfl HD.out.drew (by unfold maxLen; omega) _ _ _ rfl rfl (Maps.keyOf_int_mk Tryz.underlying3 HWF.out) _ [] (plainElem_bool Tryz.underlying4 true) ?_; intro w1 hown1 hg1)
        go_roundg g1
        case measure => omega
        case rel =>
          refine ⟨k + 1, by have := HK.out; omega, by go_num, ⟨⟨_, hown1, fun z hz => ?_⟩, Upd.trans (HU1.out.drew) (Upd.grown1 (S := fun q => q = ob) hg1 (fun q hq => by injection hq with hq; exact hq.symm)) (fun _ _ h => h)⟩⟩
          rw [has_put (World.ownsMap.isMap HD.out) _ _ _ HWF.out, HSD.out z hz]
          show _ = (S z || addS ts t (List.take (k + 1) l) z)
          rw [HAS.out z]
          have e1 : decide (z = (a : Int)) = decide ((a : Int) = z) := by rw [Bool.eq_iff_iff]; simp [eq_comm]
          rw [e1, Bool.and_true, Bool.or_assoc]
    · have hkl : k = l.length := by omega
      subst hkl
      rw [List.take_length] at hset
      have HS1 := As.mk hset
      have HU1 := As.mk hu
      clear hset hu HP
      go_wp2
      go_end0
      exact ⟨rfl, HS1.out, HU1.out⟩
end Go.Proofs.YtofjodppljnlaaaGreatDoor
namespace Go.Proofs.YtofjodppljnlaaaGreatDoor
open Go.RowKit
open Go.Maps (Keyed)
set_option linter.unusedVariables false
set_option linter.unusedSimpArgs false
theorem small_list : ∀ (T : Nat) (l : List Int), l.Pairwise (· ≠ ·) → (∀ x ∈ l, -1 ≤ x ∧ x < T) → l.length ≤ T + 1 := by
  intro T
  induction T with
  | zero =>
    intro l hp hl
    match l, hp, hl with
    | [], _, _ => simp
    | [x], _, _ => simp
    | x :: y :: r, hp, hl =>
      have h1 := hl x (by simp)
      have h2 := hl y (by simp)
      have h3 := (List.pairwise_cons.1 hp).1 y (by simp)
      omega
  | succ T ih =>
    intro l hp hl
    have h1 := ih (l.filter (fun x => decide (x ≠ (T : Int)))) (hp.filter _) (fun x hx => by
      obtain ⟨ha, hb⟩ := List.mem_filter.1 hx
      have := hl x ha
      simp at hb
      omega)
    have h2 : l.length ≤ (l.filter (fun x => decide (x ≠ (T : Int)))).length + 1 := by
      clear ih h1 hl
      induction l with
      | nil => simp
      | cons x r ih =>
        obtain ⟨h3, h4⟩ := List.pairwise_cons.1 hp
        by_cases hx : x = (T : Int)
        · have : r.filter (fun x => decide (x ≠ (T : Int))) = r := List.filter_eq_self.2 (fun y hy => by have := h3 y hy; simp; omega)
          rw [List.filter_cons_of_neg (by simp [hx]), this]
          simp
        · rw [List.filter_cons_of_pos (by simp [hx])]
          have := ih h4
          simp only [List.length_cons]
          omega
    omega
open Go.WideElems (Fit rd rg pl rd_val rd_key rg_of) in
/-- A set of places has at most so many. -/
theorem SetM.small {w : World} {b n : Nat} {S : Int → Bool} (h : SetM w b n S) (T : Nat) (hT : ∀ x, (Lit.int .i64 x).wf = true → S x = true → -1 ≤ x ∧ x < T) : SetM w b (T + 1) S := by
  obtain ⟨D, hD, hS⟩ := h
  obtain ⟨es', hes, hpw, _⟩ := hD.entries keyed_int
  obtain ⟨es, clock, hb, F, hn, hDe⟩ := hD
  rw [hDe] at hes
  injection hes with hes
  have hk : ∀ p ∈ es', ∃ x, p.1 = .int .i64 x ∧ (Lit.int .i64 x).wf = true := by
    intro p hp
    rw [← hes] at hp
    obtain ⟨x, hx, rfl⟩ := List.mem_map.1 (mem_sorted.1 hp)
    obtain ⟨y, hy⟩ := F.reads x hx
    rw [rg_of hy]
    obtain ⟨z, _, hz, hw⟩ := Maps.keyOf_int_inv Tryz.underlying3 (rd_key hy)
    exact ⟨z, hz, hw⟩
  have hlen : es'.length = es.size := by rw [← hes, length_sorted]; simp
  let f : Lit × DataW Unit → Int := fun p => match p.1 with | .int _ x => x | _ => 0
  have hf : ∀ p ∈ es', p.1 = .int .i64 (f p) := by
    intro p hp
    obtain ⟨x, hx, _⟩ := hk p hp
    simp [f, hx]
  have hs := small_list T (es'.map f) (by
    rw [List.pairwise_map]
    exact hpw.imp_of_mem (fun {p q} hp hq hne he => hne (by rw [hf p hp, hf q hq, he]))) (fun x hx => by
    obtain ⟨p, hp, rfl⟩ := List.mem_map.1 hx
    obtain ⟨x, hx', hw⟩ := hk p hp
    have e : f p = x := by simp [f, hx']
    rw [e]
    refine hT x hw ?_
    rw [← hS x hw, hDe, hes, Maps.has_eq, List.any_eq_true]
    exact ⟨p, hp, by rw [hx']; simp [Lit.sameKey]⟩)
  rw [List.length_map] at hs
  exact ⟨D, ⟨es, clock, hb, F, by omega, hDe⟩, hS⟩
end Go.Proofs.YtofjodppljnlaaaGreatDoor
namespace Go.Proofs.YtofjodppljnlaaaGreatDoor
open Go.RowKit
open Go.Maps (Keyed)
set_option linter.unusedVariables false
set_option linter.unusedSimpArgs false
/-- Who may come behind a place; -1: the beginning. -/
def nextsOf (fs : List (List Int)) (p : Part) (x : Int) : List Int := if x = -1 then p.first else fs.getD x.toNat []
/-- The set behind a type. -/
def stepS (ts fs : List (List Int)) (p : Part) (S : Int → Bool) (t : Int) (y : Int) : Bool :=
  (List.range (ts.length + 1)).any (fun i => S ((i : Int) - 1) && addS ts t (nextsOf fs p ((i : Int) - 1)) y)
theorem Upd.grownBy {w w1 : World} {q : Nat} (h : Upd (fun k => k = q) w w1) : w.grownBy w1 (some q) :=
  ⟨h.os, h.tape, h.output, h.size, fun k hk hne => h.block k hk (fun e => hne (by rw [e]))⟩
theorem addS_in {ts : List (List Int)} {t : Int} {l : List Int} {y : Int} (h : addS ts t l y = true) : y ∈ l := by
  unfold addS at h
  obtain ⟨a, ha, hb⟩ := List.any_eq_true.1 h
  simp at hb
  rw [← hb.1]; exact ha
/-- The set while the loop goes: what is left is not counted. -/
def leftS (ts fs : List (List Int)) (p : Part) (S : Int → Bool) (left : Lit → Bool) (t y : Int) : Bool :=
  (List.range (ts.length + 1)).any (fun i => (S ((i : Int) - 1) && !left (.int .i64 ((i : Int) - 1))) && addS ts t (nextsOf fs p ((i : Int) - 1)) y)
theorem leftS_next {ts fs : List (List Int)} {p : Part} {S : Int → Bool} {left : Lit → Bool} {t x : Int} (h0 : -1 ≤ x) (h1 : x < ts.length) (hS : S x = true) (y : Int) :
    (leftS ts fs p S left t y || addS ts t (nextsOf fs p x) y) = leftS ts fs p S (fun z => left z && !z.sameKey (.int .i64 x)) t y := by
  unfold leftS
  rw [Bool.eq_iff_iff, Bool.or_eq_true, List.any_eq_true, List.any_eq_true]
  constructor
  · rintro (⟨i, hi, h⟩ | h)
    · refine ⟨i, hi, ?_⟩
      simp only [Bool.and_eq_true, Bool.not_eq_true', Bool.and_eq_false_iff] at h ⊢
      exact ⟨⟨h.1.1, .inl h.1.2⟩, h.2⟩
    · refine ⟨(x + 1).toNat, List.mem_range.2 (by omega), ?_⟩
      have e : (((x + 1).toNat : Nat) : Int) - 1 = x := by omega
      rw [e, hS, h]
      simp [Lit.sameKey]
  · rintro ⟨i, hi, h⟩
    simp only [Bool.and_eq_true, Bool.not_eq_true', Bool.and_eq_false_iff] at h
    rcases h.1.2 with h2 | h2
    · left
      refine ⟨i, hi, ?_⟩
      simp only [Bool.and_eq_true, Bool.not_eq_true']
      exact ⟨⟨h.1.1, h2⟩, h.2⟩
    · right
      have e : (i : Int) - 1 = x := by simpa [Lit.sameKey] using h2
      rw [← e]
      exact h.2
theorem leftS_rng {ts fs : List (List Int)} {p : Part} {S : Int → Bool} {left : Lit → Bool} {t : Int} (hok : ∀ x, ∀ a ∈ nextsOf fs p x, 0 ≤ a ∧ a < ts.length) (y : Int) (h : leftS ts fs p S left t y = true) : -1 ≤ y ∧ y < ts.length := by
  unfold leftS at h
  obtain ⟨i, _, h⟩ := List.any_eq_true.1 h
  simp only [Bool.and_eq_true] at h
  have := hok _ y (addS_in h.2)
  omega
theorem stepS_rng {ts fs : List (List Int)} {p : Part} {S : Int → Bool} {t : Int} (hok : ∀ x, ∀ a ∈ nextsOf fs p x, 0 ≤ a ∧ a < ts.length) (y : Int) (h : stepS ts fs p S t y = true) : 0 ≤ y ∧ y < ts.length := by
  unfold stepS at h
  obtain ⟨i, _, h⟩ := List.any_eq_true.1 h
  simp only [Bool.and_eq_true] at h
  exact hok _ y (addS_in h.2)
/-- What holds at each round's head. -/
structure StepR (w : World) (N mb sb n : Nat) (D : DataW Unit) (ts fs : List (List Int)) (p : Part) (S : Int → Bool) (t : Int) (left : Lit → Bool) (g : Nat) (wr : World) : Prop where
  rg : wr.ranges Tryz.prog 3 (plainElem Tryz.prog 4) sb (w.heap.size + 4) n D left g
  set : SetM wr (w.heap.size + 2) (ts.length + 1) (leftS ts fs p S left t)
  pure : Pure w wr
  sz : w.heap.size + 5 ≤ wr.heap.size
  c0 : wr.cell? ⟨w.heap.size, 0, none⟩ = some (.pointer (some ⟨mb, 0, none⟩))
  c1 : wr.cell? ⟨w.heap.size + 1, 0, none⟩ = some (.int .i64 t)
  c3 : wr.cell? ⟨w.heap.size + 3, 0, none⟩ = some (.map (some (w.heap.size + 2)))
theorem StepR.next {w wr w2 w3 : World} {N mb sb n g g2 : Nat} {D : DataW Unit} {ts fs : List (List Int)} {p : Part} {S : Int → Bool} {t x : Int} {left : Lit → Bool} (h : StepR w N mb sb n D ts fs p S t left g wr)
    (hsb : sb < w.heap.size) (hok : ∀ x, ∀ a ∈ nextsOf fs p x, 0 ≤ a ∧ a < ts.length) (h0 : -1 ≤ x) (h1 : x < ts.length) (hS : S x = true) (hr : w2.ranges Tryz.prog 3 (plainElem Tryz.prog 4) sb (w.heap.size + 4) n D (fun z => left z && !z.sameKey (.int .i64 x)) g2) (hu2 : Upd (fun k => k = w.heap.size + 4) wr w2)
    (m : Nat) (hs : SetM w3 (w.heap.size + 2) m (fun y => leftS ts fs p S left t y || addS ts t (nextsOf fs p x) y)) (hu3 : Upd (fun k => k = w.heap.size + 2) w2 w3) :
    StepR w N mb sb n D ts fs p S t (fun z => left z && !z.sameKey (.int .i64 x)) g2 w3 where
  rg := hr.kept hu3.grownBy (by simp; omega) (by simp)
  set := (hs.same (fun y => leftS_next h0 h1 hS y)).small ts.length (fun y _ hy => leftS_rng hok y hy)
  pure := (h.pure.trans hu2 (fun k hk e => by omega)).trans hu3 (fun k hk e => by omega)
  sz := Nat.le_trans h.sz (Nat.le_trans hu2.size hu3.size)
  c0 := by rw [hu3.cell (by have := h.sz; have := hu2.size; omega) (by omega), hu2.cell (by have := h.sz; omega) (by omega)]; exact h.c0
  c1 := by rw [hu3.cell (by have := h.sz; have := hu2.size; omega) (by omega), hu2.cell (by have := h.sz; omega) (by omega)]; exact h.c1
  c3 := by rw [hu3.cell (by have := h.sz; have := hu2.size; omega) (by omega), hu2.cell (by have := h.sz; omega) (by omega)]; exact h.c3
set_option maxRecDepth 100000 in
set_option maxHeartbeats 4000000 in
theorem step_calls {w : World} {N mb sb n : Nat} {ts fs : List (List Int)} {p : Part} {t : Int} {S : Int → Bool} (hM : Mac w N mb ts fs p) (hS : SetM w sb n S) (hts : ts.length ≤ 1000) (htl : ∀ x ∈ ts, x.length ≤ 1048576) (hfl : fs.length = ts.length)
    (hrg : ∀ x, (Lit.int .i64 x).wf = true → S x = true → -1 ≤ x ∧ x < ts.length) (hok : ∀ x, ∀ a ∈ nextsOf fs p x, 0 ≤ a ∧ a < ts.length) (hlen : ∀ x, (nextsOf fs p x).length ≤ 1048576 * 1000) :
    Calls Tryz.prog 166 #[.pointer (some ⟨mb, 0, none⟩), .map (some sb), .int .i64 t] w fun r w' => ∃ ob, r = .returned (.map (some ob)) ∧ SetM w' ob (ts.length + 1) (stepS ts fs p S t) ∧ Pure w w' := by
  have hsb := hS.lt
  obtain ⟨D, hD, hSD⟩ := hS
  have HD := As.mk hD
  have HSD := As.mk hSD
  have HM0 := As.mk hM
  have HOK := As.mk hok
  have HLN := As.mk hlen
  have HTL := As.mk htl
  have HRG0 := As.mk hrg
  have hmN := hM.1
  have hNw := hM.2.1
  clear hD hSD hM hok hlen htl hrg
  have hmm := @run_makeMap Tryz.prog
  go_enter Tryz.func166, Tryz.ntmps166
  go_wp2_with (at_range; refine wpList_range_own _ rfl _ 175 rfl 3 4 keyed_int Tryz.underlying175 _ sb n D rfl (((HD.out.alloc _).alloc _).alloc _ |>.alloc _) ?_; intro w0 hrg0 hg0 hs0; apply As.out)
  refine ⟨?_⟩
  go_wp2
  have hb4 : ((((w.alloc (.cells #[.pointer (some ⟨mb, 0, none⟩)] 172)).alloc (.cells #[.int .i64 t] 3)).alloc (.map #[] 0)).alloc (.cells #[.map (some (w.heap.size + 1 + 1))] 175)).heap.size = w.heap.size + 4 := by simp
  go_loopg [9] (Maps.size D) (fun g kv wr => ∃ left, As (StepR w N mb sb n D ts fs p S t left g wr))
  case atStart =>
    have hp4 : Pure ((((w.alloc (.cells #[.pointer (some ⟨mb, 0, none⟩)] 172)).alloc (.cells #[.int .i64 t] 3)).alloc (.map #[] 0)).alloc (.cells #[.map (some (w.heap.size + 1 + 1))] 175)) w0 := Upd.grown1 hg0 (fun k hk => by cases hk)
    have hw4 : Pure w ((((w.alloc (.cells #[.pointer (some ⟨mb, 0, none⟩)] 172)).alloc (.cells #[.int .i64 t] 3)).alloc (.map #[] 0)).alloc (.cells #[.map (some (w.heap.size + 1 + 1))] 175)) := (((Upd.alloc1 _ _ _).alloc _).alloc _).alloc _
    have hmade := SetM.made ((w.alloc (.cells #[.pointer (some ⟨mb, 0, none⟩)] 172)).alloc (.cells #[.int .i64 t] 3))
    have e2 : ((w.alloc (.cells #[.pointer (some ⟨mb, 0, none⟩)] 172)).alloc (.cells #[.int .i64 t] 3)).heap.size = w.heap.size + 2 := by simp
    rw [e2] at hmade
    refine ⟨Maps.has D, ⟨⟨by rw [← hb4]; exact hrg0, ?_, hw4.trans hp4 (fun _ _ h => h), by rw [hs0, hb4]; omega, ?_, ?_, ?_⟩⟩⟩
    · refine ((hmade.kept (R := fun _ => False) ((Upd.alloc1 _ _ _).trans hp4 (fun _ _ h => h)) (fun h => h))).mono (Nat.zero_le _) |>.same (fun y => ?_)
      unfold leftS
      rw [eq_comm, List.any_eq_false]
      intro i hi
      have hlt := List.mem_range.1 hi
      rw [HSD.out _ (WalkArith.wf_i64 (by omega))]
      simp
    · refine (hp4.cell (by simp; try omega) (fun h => h)).trans ?_
      have hh := (Below.heap_alloc (((w.alloc (.cells #[.pointer (some ⟨mb, 0, none⟩)] 172)).alloc (.cells #[.int .i64 t] 3)).alloc (.map #[] 0)) (.cells #[.map (some (w.heap.size + 1 + 1))] 175) w.heap.size (by simp; try omega)).trans ((Below.heap_alloc _ _ _ (by simp; try omega)).trans ((Below.heap_alloc _ _ _ (by simp)).trans (heap_alloc_new w _)))
      unfold World.cell?; simp only [hh]; rfl
    · refine (hp4.cell (by simp; try omega) (fun h => h)).trans ?_
      have hh := (Below.heap_alloc (((w.alloc (.cells #[.pointer (some ⟨mb, 0, none⟩)] 172)).alloc (.cells #[.int .i64 t] 3)).alloc (.map #[] 0)) (.cells #[.map (some (w.heap.size + 1 + 1))] 175) (w.heap.size + 1) (by simp; try omega)).trans ((Below.heap_alloc _ _ _ (by simp)).trans (heap_alloc2_new w _ _))
      unfold World.cell?; simp only [hh]; rfl
    · refine (hp4.cell (by simp; try omega) (fun h => h)).trans ?_
      have hh := heap_alloc_new (((w.alloc (.cells #[.pointer (some ⟨mb, 0, none⟩)] 172)).alloc (.cells #[.int .i64 t] 3)).alloc (.map #[] 0)) (.cells #[.map (some (w.heap.size + 1 + 1))] 175)
      rw [show (((w.alloc (.cells #[.pointer (some ⟨mb, 0, none⟩)] 172)).alloc (.cells #[.int .i64 t] 3)).alloc (.map #[] 0)).heap.size = w.heap.size + 3 by simp] at hh
      unfold World.cell?; simp only [hh]; rfl
  case round =>
    obtain ⟨left, HR⟩ := hrel
    have invV : ∀ (v : Value) (y : DataW Unit × List MemPlace), plainElem Tryz.prog 4 v = some y → ∃ c : Bool, v = .bool c := by
      intro v y hv
      cases v <;> simp [plainElem, Tryz.underlying4] at hv
      exact ⟨_, rfl⟩
    go_wp2_with (at_next; refine wpList_next_ranges _ rfl _ rfl 3 keyed_int (plainElem Tryz.prog 4) (fun x : Int => Value.int .i64 x) (fun c : Bool => Value.bool c) (fun key kl hk => by obtain ⟨x, rfl, _⟩ := Maps.keyOf_int_inv Tryz.underlying3 hk; exact ⟨x, rfl⟩) invV sb (w.heap.size + 4) n D left gk rfl HR.out.rg (fun h0 hl => As.out ?_) (fun x c kl y w2 cnt2 hkey hlk hv hat hrg2 hlt hgr hsz hen => As.out ?_))
    · refine ⟨?_⟩
      have HLF := As.mk hl
      have c3 := HR.out.c3
      clear hl
      go_wp2
      go_ret
      refine ⟨w.heap.size + 2, rfl, HR.out.set.same (fun y => by simp [stepS, leftS, HLF.out]), HR.out.pure⟩
    · refine ⟨?_⟩
      obtain ⟨x', ex, rfl, hwx⟩ := Maps.keyOf_int_inv Tryz.underlying3 hkey
      cases ex
      have hSx : S x = true := by rw [← HSD.out x hwx]; exact Maps.has_true_of_atKey hat
      obtain ⟨hx0, hx1⟩ := HRG0.out x hwx hSx
      have hu2 : Upd (fun k => k = w.heap.size + 4) wr w2 := Upd.grown1 hgr (fun k hk => by injection hk with hk; exact hk.symm)
      have hM2 : Mac w2 N mb ts fs p := ((HM0.out.pure HR.out.pure).upd hu2 (fun k hk => by omega))
      have c0 : w2.cell? ⟨w.heap.size, 0, none⟩ = some (.pointer (some ⟨mb, 0, none⟩)) := (hu2.cell (by have := HR.out.sz; omega) (by omega)).trans HR.out.c0
      have c1 : w2.cell? ⟨w.heap.size + 1, 0, none⟩ = some (.int .i64 t) := (hu2.cell (by have := HR.out.sz; omega) (by omega)).trans HR.out.c1
      have c3 : w2.cell? ⟨w.heap.size + 3, 0, none⟩ = some (.map (some (w.heap.size + 2))) := (hu2.cell (by have := HR.out.sz; omega) (by omega)).trans HR.out.c3
      have hset2 : SetM w2 (w.heap.size + 2) (ts.length + 1) (leftS ts fs p S left t) := HR.out.set.kept hu2 (by omega)
      have hsz2 : w.heap.size + 5 ≤ w2.heap.size := Nat.le_trans HR.out.sz hu2.size
      have hlx := HLN.out x
      have HSX := As.mk hSx
      have HRG2 := As.mk hrg2
      have HU2 := As.mk hu2
      have HEN := As.mk hen
      have hADD := fun (A : Option Addr) (cc : Nat) (hrow : intR.row w2 (fun k => k < N) A (nextsOf fs p x)) => add_calls (c := cc) hM2 (by omega : N ≤ w.heap.size + 2) c0 c1 c3 (by omega) (by omega) (by omega) (by omega) hset2 hrow (fun _ h => h) (HOK.out x) hlx (by omega) HTL.out (by omega)
      have HADD := As.mk hADD
      obtain ⟨_, _, At, ct, Ag, cg, Af, cf, Al, cl, hbk, hty, hfo, hfi, hla⟩ := hM2
      clear hkey hlk hv hat hrg2 hgr hsz hu2 hset2 hADD hSx
      by_cases hx : x = -1
      · subst hx
        have hnx : nextsOf fs p (-1) = p.first := rfl
        have m3 : w2.cell? ⟨mb, 3, none⟩ = some (.slice Af p.first.length cf) := by unfold World.cell?; simp only [hbk]; rfl
        have HA2 := As.mk (HADD.out Af cf (by rw [hnx]; exact hfi))
        rw [hnx] at HA2
        clear HADD hbk hty hfo hfi hla
        go_wp2_with (go_at_call 194; refine HA2.out.mono ?_; rintro e w3 ⟨rfl, hs3, hu3⟩)
        go_roundg cnt2
        case measure => omega
        case rel => exact ⟨_, ⟨HR.out.next hsb HOK.out hx0 hx1 HSX.out HRG2.out HU2.out _ hs3 hu3⟩⟩
      · obtain ⟨a, rfl⟩ : ∃ a : Nat, x = a := ⟨x.toNat, by omega⟩
        obtain ⟨y, hy⟩ : ∃ y, fs[a]? = some y := ⟨_, List.getElem?_eq_getElem (by omega)⟩
        have hnx : nextsOf fs p (a : Int) = y := by
          unfold nextsOf
          rw [if_neg hx]
          simp [List.getD, hy]
        have hne : ((a : Int) == -1) = false := by simp
        have ha1 : (a : Int) < (fs.length : Int) := by omega
        have m1 : w2.cell? ⟨mb, 1, none⟩ = some (.slice Ag fs.length cg) := by unfold World.cell?; simp only [hbk]; rfl
        obtain ⟨tb, to1, A1, c1', rfl, htb, d1, hyr⟩ := tyrow_at hfo hy
        have HA2 := As.mk (HADD.out A1 c1' (by rw [hnx]; exact hyr))
        have HNX := As.mk hnx
        rw [hnx] at HA2
        clear HADD hbk hty hfo hfi hla hx hy hyr hnx
        go_wp2_with (go_at_call 194; refine HA2.out.mono ?_; rintro e w3 ⟨rfl, hs3, hu3⟩)
        go_roundg cnt2
        case measure => omega
        case rel => exact ⟨_, ⟨HR.out.next hsb HOK.out hx0 hx1 HSX.out HRG2.out HU2.out _ (by rw [HNX.out]; exact hs3) hu3⟩⟩
end Go.Proofs.YtofjodppljnlaaaGreatDoor
namespace Go.Proofs.YtofjodppljnlaaaGreatDoor
open Go.RowKit
open Go.Maps (Keyed)
set_option linter.unusedVariables false
set_option linter.unusedSimpArgs false
/-- A machine that may be run. -/
structure MOk (ts fs : List (List Int)) (p : Part) : Prop where
  lt : ts.length ≤ 1000
  tl : ∀ x ∈ ts, x.length ≤ 1048576
  fl : fs.length = ts.length
  ok : ∀ x, ∀ a ∈ nextsOf fs p x, 0 ≤ a ∧ a < ts.length
  len : ∀ x, (nextsOf fs p x).length ≤ 1048576 * 1000
  last : ∀ a ∈ p.last, 0 ≤ a ∧ a < ts.length
  ll : p.last.length ≤ 1048576
/-- Only the beginning and places. -/
def InS (T : Nat) (S : Int → Bool) : Prop := ∀ x, S x = true → -1 ≤ x ∧ x < T
def emptyS (T : Nat) (S : Int → Bool) : Bool := !((List.range (T + 1)).any (fun i => S ((i : Int) - 1)))
def startS (x : Int) : Bool := decide (x = -1)
/-- The set behind a word's longest beginning, and how long that is. -/
def runS (ts fs : List (List Int)) (p : Part) : (Int → Bool) → List Int → (Int → Bool) × Nat
  | S, [] => (S, 0)
  | S, t :: r => if emptyS ts.length (stepS ts fs p S t) then (S, 0) else ((runS ts fs p (stepS ts fs p S t) r).1, (runS ts fs p (stepS ts fs p S t) r).2 + 1)
def endsS (p : Part) (S : Int → Bool) : Bool := (S (-1) && p.none) || p.last.any S
theorem startS_in (T : Nat) : InS T startS := fun x h => by simp [startS] at h; omega
theorem stepS_in {ts fs : List (List Int)} {p : Part} (hM : MOk ts fs p) (S : Int → Bool) (t : Int) : InS ts.length (stepS ts fs p S t) := fun y h => by have := stepS_rng hM.ok y h; omega
theorem runS_in {ts fs : List (List Int)} {p : Part} (hM : MOk ts fs p) : ∀ (word : List Int) (S : Int → Bool), InS ts.length S → InS ts.length (runS ts fs p S word).1 := by
  intro word
  induction word with
  | nil => intro S h; exact h
  | cons t r ih =>
    intro S h
    unfold runS
    split
    · exact h
    · exact ih _ (stepS_in hM S t)
open Go.WideElems (Fit rd rg pl rd_val rd_key rg_of) in
/-- Is a set empty? -/
theorem SetM.empty {w : World} {b n : Nat} {S : Int → Bool} (h : SetM w b n S) (T : Nat) (hT : InS T S) (hT2 : T ≤ 1000) :
    ∃ D : DataW Unit, w.ownsMap Tryz.prog 3 (plainElem Tryz.prog 4) b n D ∧ decide (Maps.size D = 0) = emptyS T S := by
  obtain ⟨D, hD, hS⟩ := h
  refine ⟨D, hD, ?_⟩
  obtain ⟨es', hes, hpw, _⟩ := hD.entries keyed_int
  obtain ⟨es, clock, hb, F, hn, hDe⟩ := hD
  rw [hDe] at hes
  injection hes with hes
  have hk : ∀ p ∈ es', ∃ x, p.1 = .int .i64 x ∧ (Lit.int .i64 x).wf = true := by
    intro p hp
    rw [← hes] at hp
    obtain ⟨x, hx, rfl⟩ := List.mem_map.1 (mem_sorted.1 hp)
    obtain ⟨y, hy⟩ := F.reads x hx
    rw [rg_of hy]
    obtain ⟨z, _, hz, hw⟩ := Maps.keyOf_int_inv Tryz.underlying3 (rd_key hy)
    exact ⟨z, hz, hw⟩
  have hD' : D = .map es' := by rw [hDe, hes]
  rw [Bool.eq_iff_iff, decide_eq_true_eq, hD', Maps.size_eq]
  unfold emptyS
  rw [Bool.not_eq_true', List.any_eq_false]
  constructor
  · intro h0 i hi
    have : es' = [] := List.eq_nil_of_length_eq_zero h0
    subst this
    intro hc
    have hr := hT _ hc
    have hw : (Lit.int .i64 ((i : Int) - 1)).wf = true := WalkArith.wf_i64 (by omega)
    have := hS _ hw
    rw [hD', hc] at this
    simp [Maps.has_eq] at this
  · intro h0
    match es', hk, hD' with
    | [], _, _ => rfl
    | q :: r, hk, hD' =>
      obtain ⟨x, hx, hw⟩ := hk q (by simp)
      have hh : S x = true := by
        rw [← hS x hw, hD', Maps.has_eq, List.any_cons, hx]
        simp [Lit.sameKey]
      have hr := hT x hh
      exact absurd hh (by
        have := h0 (x + 1).toNat (List.mem_range.2 (by omega))
        have e : (((x + 1).toNat : Nat) : Int) - 1 = x := by omega
        rw [e] at this
        exact this)
/-- The element of a map's literal. -/
theorem wpList_insert_own {H : Type} {P : Program} (w : World) {ops : Array Oper} {rest : List Oper} {o : Oper} {a : Act} {Q : Exit → Act → World → Prop}
    (hg : o.guard = none) (m x v : Operand) (t : TypeId) (hop : o.op = Op.insert t m x v)
    (k e : TypeId) (K : Keyed P k) (ht : P.underlying t = some (.map k e)) (R : Value → Option (DataW H × List MemPlace)) (b n : Nat) (D : DataW H)
    (hm : a.eval m = .map (some b)) (hown : w.ownsMap P k R b n D) (hn : n < maxLen) (key val : Value) (kl : Lit) (hx : a.eval x = key) (hv : a.eval v = val) (hkey : keyOf P k key = some kl)
    (d : DataW H) (ps : List MemPlace) (hval : R val = some (d, ps))
    (hK : ∀ w', w'.ownsMap P k R b (n + 1) (D.put kl d) → w.grownBy w' (some b) → wpList P ops Q rest (a.put o.dst undef) w') :
    wpList P ops Q (o :: rest) a w := by
  refine wpList_plain hg fun K' hK' => ?_
  obtain ⟨w', hrun, r1, r2⟩ := hown.update K ht hn hkey hval
  unfold Oper.wp
  simp [execOp, hop, hm, hx, hv, hrun, Result.andThen]
  exact hK' _ _ (hK w' r1 r2)
set_option maxRecDepth 100000 in
set_option maxHeartbeats 4000000 in
theorem run_calls {w : World} {N mb : Nat} {ts fs : List (List Int)} {p : Part} {word : List Int} {F : Nat → Prop} {A : Option Addr} {c : Nat} (hM : Mac w N mb ts fs p) (hO : MOk ts fs p) (hr : intR.row w F A word) (hb : word.length ≤ 1048576 * 4) :
    Calls Tryz.prog 129 #[.pointer (some ⟨mb, 0, none⟩), .slice A word.length c] w fun r w' => ∃ sb, r = .returned (.tuple #[.map (some sb), .int .i64 ((runS ts fs p startS word).2 : Nat)]) ∧ SetM w' sb (ts.length + 1) (runS ts fs p startS word).1 ∧ Pure w w' := by
  have HM := As.mk hM
  have HO := As.mk hO
  have HR := As.mk hr
  have hlt0 := hO.lt
  clear hM hO hr
  have hmm := @run_makeMap Tryz.prog
  have hmade := World.ownsMap_made (H := Unit) w Tryz.prog 3 (plainElem Tryz.prog 4)
  have HMADE := As.mk hmade
  have HWF := As.mk (WalkArith.wf_i64 (n := (-1 : Int)) (by omega))
  clear hmade
  go_enter Tryz.func129, Tryz.ntmps129
  go_wp2_with (refine wpList_insert_own _ rfl _ _ _ 175 rfl 3 4 keyed_int Tryz.underlying175 _ w.heap.size 0 _ rfl HMADE.out (by unfold maxLen; omega) _ _ _ rfl rfl (Maps.keyOf_int_mk Tryz.underlying3 HWF.out) _ [] (plainElem_bool Tryz.underlying4 true) (fun w1 hown1 hg1 => As.out ?_))
  refine ⟨?_⟩
  have hset1 : SetM w1 w.heap.size (ts.length + 1) startS := by
    refine SetM.mono (n := 0 + 1) ⟨_, hown1, fun z hz => ?_⟩ (by omega)
    rw [has_put (World.ownsMap.isMap HMADE.out) _ _ _ HWF.out]
    simp [Maps.has_eq, startS]
  have hu1 : Pure w w1 := (Upd.alloc1 (fun _ => False) w (.map #[] 0)).trans (Upd.grown1 (S := fun q => q = w.heap.size) hg1 (fun q hq => by injection hq with hq; exact hq.symm)) (fun q hq h => by omega)
  have HI := As.mk (And.intro hset1 hu1)
  clear hset1 hu1 hown1 hg1
  go_wp2
  go_loopg [6, 14] word.length (fun g s i wr => ∃ (k sb : Nat) (S : Int → Bool), k + g = word.length ∧ i = .int .i64 k ∧ s = .map (some sb) ∧ As (SetM wr sb (ts.length + 1) S ∧ Pure w wr ∧ InS ts.length S ∧ runS ts fs p startS word = ((runS ts fs p S (word.drop k)).1, (runS ts fs p S (word.drop k)).2 + k)))
  case atStart => exact ⟨0, w.heap.size, startS, by omega, rfl, rfl, ⟨HI.out.1, HI.out.2, startS_in _, rfl⟩⟩
  case round =>
    obtain ⟨k, sb, S, hk, rfl, rfl, HP⟩ := hrel
    by_cases hlt : k < word.length
    · obtain ⟨x, hx⟩ : ∃ x, word[k]? = some x := ⟨_, List.getElem?_eq_getElem hlt⟩
      obtain ⟨g1, rfl⟩ : ∃ m, gk = m + 1 := ⟨gk - 1, by omega⟩
      obtain ⟨b, o, rfl, hFb, hbb, d0⟩ := int_at (Rp.row_pure HR.out HP.out.2.1) hx
      have HK := As.mk hk
      have HD := As.mk (int_drop hx)
      have HC := As.mk (step_calls (t := x) (HM.out.pure HP.out.2.1) HP.out.1 hlt0 HO.out.tl HO.out.fl (fun y _ hy => HP.out.2.2.1 y hy) HO.out.ok HO.out.len)
      clear hk hx
      go_wp2_with (go_at_call 166; refine HC.out.mono ?_; rintro e w2 ⟨ob, rfl, hs2, hu2⟩; apply As.out)
      refine ⟨?_⟩
      obtain ⟨D, hD, hemp⟩ := hs2.empty ts.length (stepS_in HO.out S x) hlt0
      have HS2 := As.mk (And.intro hs2 hu2)
      have HDD := As.mk hD
      clear hs2 hu2 hD
      cases hq : emptyS ts.length (stepS ts fs p S x)
      · have hsz : ((Maps.size D : Int) == 0) = false := by
          rw [hq] at hemp
          simpa using hemp
        have HQ := As.mk hq
        clear hemp hq
        go_wp2_with (at_len; refine wpList_len_own _ rfl _ 175 rfl 3 4 Tryz.underlying175 _ ob (ts.length + 1) D rfl HDD.out ?_)
        go_roundg g1
        case measure => omega
        case rel =>
          refine ⟨k + 1, ob, _, by have := HK.out; omega, by go_num, rfl, ⟨HS2.out.1, HP.out.2.1.trans HS2.out.2 (fun _ _ h => h), stepS_in HO.out S x, ?_⟩⟩
          rw [HP.out.2.2.2, HD.out, runS, if_neg (by rw [HQ.out]; simp)]
          simp only [Prod.mk.injEq, true_and]
          omega
      · have hsz : ((Maps.size D : Int) == 0) = true := by
          rw [hq] at hemp
          simpa using hemp
        have HQ := As.mk hq
        clear hemp hq
        go_wp2_with (at_len; refine wpList_len_own _ rfl _ 175 rfl 3 4 Tryz.underlying175 _ ob (ts.length + 1) D rfl HDD.out ?_)
        have e1 : runS ts fs p startS word = (S, k) := by
          rw [HP.out.2.2.2, HD.out, runS, if_pos HQ.out]
          simp
        go_ret2
        refine ⟨sb, ?_, ?_, HP.out.2.1.trans HS2.out.2 (fun _ _ h => h)⟩
        · rw [e1]; rfl
        · rw [e1]
          exact HP.out.1.kept HS2.out.2 (fun h => h)
    · obtain rfl : k = word.length := by omega
      have e1 : runS ts fs p startS word = (S, word.length) := by
        rw [HP.out.2.2.2, List.drop_length, runS]
        simp
      have HE := As.mk e1
      clear e1
      go_wp2
      go_ret2
      refine ⟨sb, ?_, ?_, HP.out.2.1⟩
      · rw [HE.out]; rfl
      · rw [HE.out]
        exact HP.out.1
/-- What ends a word at a place. -/
def endS (p : Part) (x : Int) : Bool := (decide (x = -1) && p.none) || (decide (x ≠ -1) && decide (x ∈ p.last))
theorem endsS_true {p : Part} {S : Int → Bool} {x : Int} (h : S x = true) (he : endS p x = true) : endsS p S = true := by
  unfold endS at he
  unfold endsS
  rw [Bool.or_eq_true] at he ⊢
  rcases he with he | he
  · simp at he
    left
    rw [← he.1, h, he.2]
    rfl
  · simp at he
    right
    exact List.any_eq_true.2 ⟨x, he.2, h⟩
theorem endsS_false {p : Part} {S : Int → Bool} (hl : ∀ a ∈ p.last, 0 ≤ a) (he : ∀ x, S x = true → endS p x = false) : endsS p S = false := by
  unfold endsS
  rw [Bool.or_eq_false_iff]
  constructor
  · cases h : S (-1)
    · rfl
    · have := he _ h
      simpa [endS] using this
  · rw [List.any_eq_false]
    intro a ha h
    have := he a h
    have h0 := hl a ha
    simp [endS, ha] at this
    omega
structure EndR (w : World) (sb n : Nat) (D : DataW Unit) (p : Part) (S : Int → Bool) (left : Lit → Bool) (g : Nat) (wr : World) : Prop where
  rg : wr.ranges Tryz.prog 3 (plainElem Tryz.prog 4) sb w.heap.size n D left g
  pure : Pure w wr
  sz : w.heap.size + 1 ≤ wr.heap.size
  no : ∀ x, (Lit.int .i64 x).wf = true → S x = true → left (.int .i64 x) = false → endS p x = false
set_option maxRecDepth 100000 in
set_option maxHeartbeats 4000000 in
theorem ends_calls {w : World} {N mb sb n : Nat} {ts fs : List (List Int)} {p : Part} {S : Int → Bool} (hM : Mac w N mb ts fs p) (hO : MOk ts fs p) (hS : SetM w sb n S) (hI : InS ts.length S) :
    Calls Tryz.prog 130 #[.pointer (some ⟨mb, 0, none⟩), .map (some sb)] w fun r w' => r = .returned (.bool (endsS p S)) ∧ Pure w w' := by
  have hsb := hS.lt
  have hlt0 := hO.lt
  obtain ⟨D, hD, hSD⟩ := hS
  have HD := As.mk hD
  have HSD := As.mk hSD
  have HM := As.mk hM
  have HO := As.mk hO
  have HI := As.mk hI
  have hmN := hM.1
  have hNw := hM.2.1
  have hll := hO.ll
  clear hD hSD hM hO hI
  go_enter Tryz.func130, Tryz.ntmps130
  go_wp2_with (at_range; refine wpList_range_own _ rfl _ 175 rfl 3 4 keyed_int Tryz.underlying175 _ sb n D rfl HD.out (fun w0 hrg0 hg0 hs0 => As.out ?_))
  refine ⟨?_⟩
  go_wp2
  go_loopg [5] (Maps.size D) (fun g kv wr => ∃ left, As (EndR w sb n D p S left g wr))
  case atStart =>
    refine ⟨Maps.has D, ⟨⟨hrg0, Upd.grown1 hg0 (fun k hk => by cases hk), by omega, fun x hx h1 h2 => ?_⟩⟩⟩
    rw [HSD.out x hx, h1] at h2
    cases h2
  case round =>
    obtain ⟨left, HR⟩ := hrel
    have invV : ∀ (v : Value) (y : DataW Unit × List MemPlace), plainElem Tryz.prog 4 v = some y → ∃ c : Bool, v = .bool c := by
      intro v y hv
      cases v <;> simp [plainElem, Tryz.underlying4] at hv
      exact ⟨_, rfl⟩
    go_wp2_with (at_next; refine wpList_next_ranges _ rfl _ rfl 3 keyed_int (plainElem Tryz.prog 4) (fun x : Int => Value.int .i64 x) (fun c : Bool => Value.bool c) (fun key kl hk => by obtain ⟨x, rfl, _⟩ := Maps.keyOf_int_inv Tryz.underlying3 hk; exact ⟨x, rfl⟩) invV sb w.heap.size n D left gk rfl HR.out.rg (fun h0 hl => As.out ?_) (fun x c kl y w2 cnt2 hkey hlk hv hat hrg2 hlt hgr hsz hen => As.out ?_))
    · refine ⟨?_⟩
      have e1 : endsS p S = false := endsS_false (fun a ha => (HO.out.last a ha).1) (fun x hx => HR.out.no x (WalkArith.wf_i64 (by have := HI.out x hx; omega)) hx (hl _))
      have HE := As.mk e1
      clear hl e1
      go_wp2
      go_ret
      exact ⟨by rw [HE.out]; rfl, HR.out.pure⟩
    · refine ⟨?_⟩
      obtain ⟨x', ex, rfl, hwx⟩ := Maps.keyOf_int_inv Tryz.underlying3 hkey
      cases ex
      have hSx : S x = true := by rw [← HSD.out x hwx]; exact Maps.has_true_of_atKey hat
      obtain ⟨hx0, hx1⟩ := HI.out x hSx
      have hu2 : Upd (fun k => k = w.heap.size) wr w2 := Upd.grown1 hgr (fun k hk => by injection hk with hk; exact hk.symm)
      have hp2 : Pure w w2 := HR.out.pure.trans hu2 (fun k hk h => by omega)
      have hM2 : Mac w2 N mb ts fs p := HM.out.pure hp2
      obtain ⟨_, _, At, ct, Ag, cg, Af, cf, Al, cl, hbk, hty, hfo, hfi, hla⟩ := hM2
      have m2 : w2.cell? ⟨mb, 2, none⟩ = some (.bool p.none) := by unfold World.cell?; simp only [hbk]; rfl
      have m4 : w2.cell? ⟨mb, 4, none⟩ = some (.slice Al p.last.length cl) := by unfold World.cell?; simp only [hbk]; rfl
      have HLA := As.mk hla
      have HSX := As.mk hSx
      have HRG2 := As.mk hrg2
      have HP2 := As.mk (And.intro hp2 (Nat.le_trans HR.out.sz hu2.size))
      have hnext : endS p x = false → EndR w sb n D p S (fun z => left z && !z.sameKey (.int .i64 x)) cnt2 w2 := fun he => ⟨HRG2.out, HP2.out.1, HP2.out.2, fun z hz h1 h2 => by
        by_cases hzx : z = x
        · rw [hzx]; exact he
        · refine HR.out.no z hz h1 ?_
          simpa [Lit.sameKey, hzx] using h2⟩
      have HNX := As.mk hnext
      clear hkey hlk hv hat hrg2 hgr hsz hu2 hp2 hSx hbk hty hfo hfi hla hnext
      by_cases hx : x = -1
      · subst hx
        cases hn : p.none
        · rw [hn] at m2
          go_wp2
          go_roundg cnt2
          case measure => omega
          case rel => exact ⟨_, ⟨HNX.out (by simp [endS, hn])⟩⟩
        · rw [hn] at m2
          go_wp2
          go_ret
          exact ⟨by rw [endsS_true HSX.out (by simp [endS, hn])]; rfl, HP2.out.1⟩
      · have hne : (x == -1) = false := by simpa using hx
        have hne2 : (x != -1) = true := by simpa using hx
        cases hq : decide (x ∈ p.last)
        · have HE := As.mk (show endS p x = false by simp [endS, hx]; simpa using hq)
          go_wp2_with (go_at_call 167; refine (Contains_calls x HLA.out (by omega)).mono ?_; rintro e w3 ⟨rfl, rfl⟩; rw [hq])
          go_roundg cnt2
          case measure => omega
          case rel => exact ⟨_, ⟨HNX.out HE.out⟩⟩
        · have HE := As.mk (show endS p x = true by simp [endS, hx]; simpa using hq)
          go_wp2_with (go_at_call 167; refine (Contains_calls x HLA.out (by omega)).mono ?_; rintro e w3 ⟨rfl, rfl⟩; rw [hq])
          go_ret
          exact ⟨by rw [endsS_true HSX.out HE.out]; rfl, HP2.out.1⟩
end Go.Proofs.YtofjodppljnlaaaGreatDoor
namespace Go.Proofs.YtofjodppljnlaaaGreatDoor
open Go.RowKit
set_option linter.unusedVariables false
set_option linter.unusedSimpArgs false
/-- Followers are places. -/
def FrIn (s : St) : Prop := s.2.length = s.1.length ∧ ∀ x ∈ s.2, ∀ a ∈ x, 0 ≤ a ∧ a < s.1.length
theorem joinF_in {fs : List (List Int)} {last first : List Int} {n : Nat} (h : ∀ x ∈ fs, ∀ a ∈ x, 0 ≤ a ∧ a < n) (hf : ∀ a ∈ first, 0 ≤ a ∧ a < n) : ∀ x ∈ joinF fs last first, ∀ a ∈ x, 0 ≤ a ∧ a < n := by
  unfold joinF
  induction last generalizing fs with
  | nil => exact h
  | cons b r ih =>
    simp only [List.foldl_cons]
    refine ih (fun x hx a ha => ?_)
    rw [List.mem_iff_getElem?] at hx
    obtain ⟨i, hi⟩ := hx
    rw [List.getElem?_modify] at hi
    split at hi
    · obtain ⟨y, hy, rfl⟩ := Option.map_eq_some_iff.1 hi
      rcases List.mem_append.1 ha with ha | ha
      · exact h y (List.mem_of_getElem? hy) a ha
      · exact hf a ha
    · obtain ⟨y, hy, rfl⟩ := Option.map_eq_some_iff.1 hi
      exact h y (List.mem_of_getElem? hy) a ha
theorem FrIn.up {s : St} {n : Nat} (h : FrIn s) (hn : s.1.length ≤ n) : ∀ x ∈ s.2, ∀ a ∈ x, 0 ≤ a ∧ a < n := fun x hx a ha => by have := h.2 x hx a ha; omega
mutual
theorem glu_fr (g : List Grp) : ∀ (e : Ex) (s : St), FrIn s → FrIn (glu g e s).1
  | .mk k nm l, s, hs => by
    rw [glu]
    by_cases h0 : k = 0
    · rw [if_pos h0]; exact hs
    · rw [if_neg h0]
      by_cases h1 : k = 1
      · rw [if_pos h1]
        refine ⟨by simp [hs.1], fun x hx a ha => ?_⟩
        rcases List.mem_append.1 hx with hx | hx
        · have := hs.2 x hx a ha
          simp only [List.length_append, List.length_singleton]
          omega
        · simp at hx; subst hx; cases ha
      · rw [if_neg h1]
        by_cases h3 : k = 3
        · rw [if_pos h3]; exact gluAlt_fr g l s _ hs
        · rw [if_neg h3]
          by_cases h2 : k = 2
          · rw [if_pos h2]; exact gluSeq_fr g l s _ hs (by simp)
          · rw [if_neg h2]
            have h4 := gluOne_fr g l s hs
            have h5 := gluOne_bd g l s
            refine ⟨?_, ?_⟩
            · dsimp only
              split
              · rw [joinF_len]; exact h4.1
              · exact h4.1
            · dsimp only
              split
              · exact joinF_in h4.2 h5.first
              · exact h4.2
theorem gluOne_fr (g : List Grp) : ∀ (l : List Ex) (s : St), FrIn s → FrIn (gluOne g l s).1
  | [], s, h => h
  | x :: _, s, h => glu_fr g x s h
theorem gluAlt_fr (g : List Grp) : ∀ (l : List Ex) (s : St) (p : Part), FrIn s → FrIn (gluAlt g l s p).1
  | [], s, p, h => h
  | x :: r, s, p, h => gluAlt_fr g r _ _ (glu_fr g x s h)
theorem gluSeq_fr (g : List Grp) : ∀ (l : List Ex) (s : St) (p : Part), FrIn s → (∀ a ∈ p.last, 0 ≤ a) → FrIn (gluSeq g l s p).1
  | [], s, p, h, _ => h
  | x :: r, s, p, h, hp => by
    have h1 := glu_fr g x s h
    have h2 := glu_bd g x s
    refine gluSeq_fr g r _ _ ⟨by rw [joinF_len]; exact h1.1, joinF_in h1.2 h2.first⟩ (fun a ha => ?_)
    rcases mem_ite_r ha with ha | ha
    · exact hp a ha
    · exact (h2.last a ha).1
end
mutual
/-- The types of places are those of names. -/
theorem glu_ty (g : List Grp) (Q : List Int → Prop) (hQ : ∀ nm, Q (typesOf g nm)) : ∀ (e : Ex) (s : St), (∀ x ∈ s.1, Q x) → ∀ x ∈ (glu g e s).1.1, Q x
  | .mk k nm l, s, hs => by
    rw [glu]
    by_cases h0 : k = 0
    · rw [if_pos h0]; exact hs
    · rw [if_neg h0]
      by_cases h1 : k = 1
      · rw [if_pos h1]
        intro x hx
        rcases List.mem_append.1 hx with hx | hx
        · exact hs x hx
        · simp at hx; subst hx; exact hQ nm
      · rw [if_neg h1]
        by_cases h3 : k = 3
        · rw [if_pos h3]; exact gluAlt_ty g Q hQ l s _ hs
        · rw [if_neg h3]
          by_cases h2 : k = 2
          · rw [if_pos h2]; exact gluSeq_ty g Q hQ l s _ hs
          · rw [if_neg h2]; exact gluOne_ty g Q hQ l s hs
theorem gluOne_ty (g : List Grp) (Q : List Int → Prop) (hQ : ∀ nm, Q (typesOf g nm)) : ∀ (l : List Ex) (s : St), (∀ x ∈ s.1, Q x) → ∀ x ∈ (gluOne g l s).1.1, Q x
  | [], s, h => h
  | x :: _, s, h => glu_ty g Q hQ x s h
theorem gluAlt_ty (g : List Grp) (Q : List Int → Prop) (hQ : ∀ nm, Q (typesOf g nm)) : ∀ (l : List Ex) (s : St) (p : Part), (∀ x ∈ s.1, Q x) → ∀ x ∈ (gluAlt g l s p).1.1, Q x
  | [], s, p, h => h
  | x :: r, s, p, h => gluAlt_ty g Q hQ r _ _ (glu_ty g Q hQ x s h)
theorem gluSeq_ty (g : List Grp) (Q : List Int → Prop) (hQ : ∀ nm, Q (typesOf g nm)) : ∀ (l : List Ex) (s : St) (p : Part), (∀ x ∈ s.1, Q x) → ∀ x ∈ (gluSeq g l s p).1.1, Q x
  | [], s, p, h => h
  | x :: r, s, p, h => gluSeq_ty g Q hQ r _ _ (glu_ty g Q hQ x s h)
end
theorem typesOf_mem (g : List Grp) (nm : ByteArray) : typesOf g nm = [] ∨ ∃ x ∈ g, typesOf g nm = x.types := by
  induction g with
  | nil => exact .inl rfl
  | cons x r ih =>
    unfold typesOf
    split
    · exact .inr ⟨x, by simp, rfl⟩
    · rcases ih with ih | ⟨y, hy, h⟩
      · exact .inl ih
      · exact .inr ⟨y, by simp [hy], h⟩
theorem long_types {g : List Grp} (h : longB g = false) : ∀ x ∈ g, x.types.length ≤ 16 ∧ ∀ t ∈ x.types, 0 ≤ t ∧ t < 16 := by
  unfold longB at h
  rw [Bool.or_eq_false_iff, List.any_eq_false] at h
  intro x hx
  have := h.2 x hx
  unfold grpB at this
  rw [Bool.not_eq_true, Bool.or_eq_false_iff, List.any_eq_false] at this
  refine ⟨by have := this.1; simp at this; exact this, fun t ht => ?_⟩
  have := this.2 t ht
  unfold outB at this
  simp at this
  exact this
/-- The machine of a tree. -/
abbrev mcT (g : List Grp) (e : Ex) : List (List Int) := (glu g e ([], [])).1.1
abbrev mcF (g : List Grp) (e : Ex) : List (List Int) := (glu g e ([], [])).1.2
abbrev mcP (g : List Grp) (e : Ex) : Part := (glu g e ([], [])).2
theorem mc_ok {g : List Grp} {e : Ex} (h : regCheck e g = 0) : MOk (mcT g e) (mcF g e) (mcP g e) := by
  obtain ⟨h1, h2, _⟩ := regCheck_zero h
  obtain ⟨hcnt, _⟩ := exprCheck_zero h1
  have hb := glu_bd g e ([], [])
  have hf := glu_fr g e ([], []) ⟨rfl, by simp⟩
  have hfb := glu_fb g e ([], []) 0 (by simp) hcnt
  have ht := glu_ty g (fun x => x.length ≤ 16) (fun nm => by
    rcases typesOf_mem g nm with h | ⟨x, hx, h⟩
    · rw [h]; simp
    · rw [h]; exact (long_types h2 x hx).1) e ([], []) (by simp)
  have hhi := hb.hi
  simp only [List.length_nil, Nat.zero_add] at hhi
  refine ⟨by show (glu g e ([], [])).1.1.length ≤ 1000; omega, fun x hx => by have := ht x hx; omega, hf.1, fun x a ha => ?_, fun x => ?_, hb.last, by have := hb.ll; show (glu g e ([], [])).2.last.length ≤ _; omega⟩
  · unfold nextsOf at ha
    split at ha
    · exact hb.first a ha
    · cases hx : (mcF g e)[x.toNat]? with
      | none => simp [List.getD, hx] at ha
      | some y => simp [List.getD, hx] at ha; exact hf.2 y (List.mem_of_getElem? hx) a ha
  · unfold nextsOf
    split
    · have := hb.fl; show (glu g e ([], [])).2.first.length ≤ _; omega
    · cases hx : (mcF g e)[x.toNat]? with
      | none => simp [List.getD, hx]
      | some y => simp [List.getD, hx]; have := hfb y (List.mem_of_getElem? hx); omega
/-- What reg.Accepts, Begins, Nexts say. -/
def regRun (e : Ex) (g : List Grp) (word : List Int) : (Int → Bool) × Nat := runS (mcT g e) (mcF g e) (mcP g e) startS word
def regAccepts (e : Ex) (g : List Grp) (word : List Int) : Bool := decide (regCheck e g = 0) && (decide ((regRun e g word).2 = word.length) && endsS (mcP g e) (regRun e g word).1)
def regBegins (e : Ex) (g : List Grp) (word : List Int) : Nat := if regCheck e g = 0 then (regRun e g word).2 else 0
theorem runS_le (ts fs : List (List Int)) (p : Part) : ∀ (word : List Int) (S : Int → Bool), (runS ts fs p S word).2 ≤ word.length := by
  intro word
  induction word with
  | nil => intro S; exact Nat.le_refl _
  | cons t r ih =>
    intro S
    unfold runS
    split
    · exact Nat.zero_le _
    · exact Nat.succ_le_succ (ih _)
end Go.Proofs.YtofjodppljnlaaaGreatDoor
namespace Go.Proofs.YtofjodppljnlaaaGreatDoor
open Go.RowKit
set_option linter.unusedVariables false
set_option linter.unusedSimpArgs false
/-- What made needs. -/
structure MadeC (w : World) (A Bg : Option Addr) (e : Ex) (g : List Grp) : Prop where
  hr : exR.row w (fun k => k < w.heap.size) A e.l
  hg : grpR.row w (fun k => k < w.heap.size) Bg g
  wt : e.wt ≤ 1048576 * 4
  gl : g.length ≤ 1048576
  gt : ∀ x ∈ g, x.types.length ≤ 1048576
theorem MadeC.pure {w w1 : World} {A Bg : Option Addr} {e : Ex} {g : List Grp} (h : MadeC w A Bg e g) (hu : Pure w w1) : MadeC w1 A Bg e g :=
  ⟨Rp.row_fp (Rp.row_pure h.hr hu) (fun k hk => Nat.lt_of_lt_of_le hk hu.size), Rp.row_fp (Rp.row_pure h.hg hu) (fun k hk => Nat.lt_of_lt_of_le hk hu.size), h.wt, h.gl, h.gt⟩
theorem MadeC.noC {w : World} {A Bg : Option Addr} {e : Ex} {g : List Grp} {c d : Nat} (h : MadeC w A Bg e g) (hc : regCheck e g ≠ 0) : Calls Tryz.prog 128 #[.agg #[.int .i64 e.k, .string e.name, .slice A e.l.length c], .slice Bg g.length d] w fun r w' => r = .returned (.pointer none) ∧ Pure w w' :=
  made_none h.hr h.hg h.wt h.gl h.gt hc
theorem MadeC.yesC {w : World} {A Bg : Option Addr} {e : Ex} {g : List Grp} {c d : Nat} (h : MadeC w A Bg e g) (hc : regCheck e g = 0) : Calls Tryz.prog 128 #[.agg #[.int .i64 e.k, .string e.name, .slice A e.l.length c], .slice Bg g.length d] w fun r w' => ∃ mb, r = .returned (.pointer (some ⟨mb, 0, none⟩)) ∧ Mac w' w'.heap.size mb (mcT g e) (mcF g e) (mcP g e) ∧ Pure w w' :=
  made_some h.hr h.hg (fun _ h => h) (fun _ h => h) h.wt h.gl h.gt hc
set_option maxRecDepth 100000 in
set_option maxHeartbeats 4000000 in
theorem accepts_calls {A Bg Aw : Option Addr} {c d cw : Nat} {e : Ex} {g : List Grp} {word : List Int} {w : World} {F : Nat → Prop} (hm : MadeC w A Bg e g) (hw : intR.row w F Aw word) (hb : word.length ≤ 1048576 * 4) :
    Calls Tryz.prog 66 #[e.val A c, .slice Bg g.length d, .slice Aw word.length cw] w fun r w' => r = .returned (.bool (regAccepts e g word)) ∧ Pure w w' := by
  have HM := As.mk hm
  have HW := As.mk hw
  obtain ⟨k0, nm, l⟩ := e
  show Calls Tryz.prog 66 #[.agg #[.int .i64 k0, .string nm, .slice A l.length c], .slice Bg g.length d, .slice Aw word.length cw] w _
  by_cases hc : regCheck (.mk k0 nm l) g = 0
  · have HMC := As.mk (fun (W : World) (hu : Pure w W) => (HM.out.pure hu).yesC (c := c) (d := d) hc)
    have hO := mc_ok hc
    have HO := As.mk hO
    have HE := As.mk (show regAccepts (.mk k0 nm l) g word = (decide ((regRun (.mk k0 nm l) g word).2 = word.length) && endsS (mcP g (.mk k0 nm l)) (regRun (.mk k0 nm l) g word).1) by unfold regAccepts; rw [hc]; simp)
    have HRR := As.mk (show regRun (.mk k0 nm l) g word = runS (mcT g (.mk k0 nm l)) (mcF g (.mk k0 nm l)) (mcP g (.mk k0 nm l)) startS word from rfl)
    have hle := runS_le (mcT g (.mk k0 nm l)) (mcF g (.mk k0 nm l)) (mcP g (.mk k0 nm l)) word startS
    have HIN := As.mk (runS_in hO word startS (startS_in _))
    rw [← HRR.out] at hle HIN
    clear hm hw hc hO
    generalize mcT g (.mk k0 nm l) = ts at *
    generalize mcF g (.mk k0 nm l) = fs at *
    generalize mcP g (.mk k0 nm l) = p at *
    generalize regRun (.mk k0 nm l) g word = rr at *
    generalize regAccepts (.mk k0 nm l) g word = acc at *
    obtain ⟨S, n⟩ := rr
    go_enter Tryz.func66, Tryz.ntmps66
    go_wp2_with (go_at_call 128; refine (HMC.out _ (Upd.alloc1 _ _ _)).mono ?_; rintro e w1 ⟨mb, rfl, hmac, hu⟩; have HU := As.mk (Upd.trans (Upd.alloc1 (fun _ => False) _ _) hu (fun _ _ h => h)); have HMAC := As.mk hmac; clear hmac hu; apply As.out)
    refine ⟨?_⟩
    have HRUN := As.mk (run_calls (c := cw) HMAC.out HO.out (Rp.row_pure HW.out HU.out) hb)
    rw [← HRR.out] at HRUN
    go_wp2_with (go_at_call 129; refine HRUN.out.mono ?_; rintro e w2 ⟨sb, rfl, hset, hu2⟩; have HS2 := As.mk (And.intro hset hu2); clear hset hu2; apply As.out)
    refine ⟨?_⟩
    have HEND := As.mk (ends_calls (HMAC.out.pure HS2.out.2) HO.out HS2.out.1 HIN.out)
    by_cases hn : n = word.length
    · subst hn
      go_wp2_with (go_at_call 130; refine HEND.out.mono ?_; rintro e w3 ⟨rfl, hu3⟩)
      go_ret
      refine ⟨?_, (HU.out.trans HS2.out.2 (fun _ _ h => h)).trans hu3 (fun _ _ h => h)⟩
      rw [HE.out]
      simp
    · have h1 : ((n : Int) == (word.length : Int)) = false := by simp; omega
      have h2 : (n == word.length) = false := by simpa using hn
      go_wp2
      go_ret
      refine ⟨?_, HU.out.trans HS2.out.2 (fun _ _ h => h)⟩
      rw [HE.out]
      simp [hn]
  · have HMC := As.mk (fun (W : World) (hu : Pure w W) => (HM.out.pure hu).noC (c := c) (d := d) hc)
    have HE := As.mk (show regAccepts (.mk k0 nm l) g word = false by unfold regAccepts; simp [hc])
    clear hm hw hc
    go_enter Tryz.func66, Tryz.ntmps66
    go_wp2_with (go_at_call 128; refine (HMC.out _ (Upd.alloc1 _ _ _)).mono ?_; rintro e w1 ⟨rfl, hu⟩; have HU := As.mk (Upd.trans (Upd.alloc1 (fun _ => False) _ _) hu (fun _ _ h => h)); clear hu)
    go_ret
    exact ⟨by rw [HE.out]; rfl, HU.out⟩
set_option maxRecDepth 100000 in
set_option maxHeartbeats 4000000 in
theorem begins_calls {A Bg Aw : Option Addr} {c d cw : Nat} {e : Ex} {g : List Grp} {word : List Int} {w : World} {F : Nat → Prop} (hm : MadeC w A Bg e g) (hw : intR.row w F Aw word) (hb : word.length ≤ 1048576 * 4) :
    Calls Tryz.prog 65 #[e.val A c, .slice Bg g.length d, .slice Aw word.length cw] w fun r w' => r = .returned (.int .i64 (regBegins e g word : Nat)) ∧ Pure w w' := by
  have HM := As.mk hm
  have HW := As.mk hw
  obtain ⟨k0, nm, l⟩ := e
  show Calls Tryz.prog 65 #[.agg #[.int .i64 k0, .string nm, .slice A l.length c], .slice Bg g.length d, .slice Aw word.length cw] w _
  by_cases hc : regCheck (.mk k0 nm l) g = 0
  · have HMC := As.mk (fun (W : World) (hu : Pure w W) => (HM.out.pure hu).yesC (c := c) (d := d) hc)
    have hO := mc_ok hc
    have HO := As.mk hO
    have HE := As.mk (show regBegins (.mk k0 nm l) g word = (regRun (.mk k0 nm l) g word).2 by unfold regBegins; rw [if_pos hc])
    have HRR := As.mk (show regRun (.mk k0 nm l) g word = runS (mcT g (.mk k0 nm l)) (mcF g (.mk k0 nm l)) (mcP g (.mk k0 nm l)) startS word from rfl)
    clear hm hw hc hO
    generalize mcT g (.mk k0 nm l) = ts at *
    generalize mcF g (.mk k0 nm l) = fs at *
    generalize mcP g (.mk k0 nm l) = p at *
    generalize regRun (.mk k0 nm l) g word = rr at *
    generalize regBegins (.mk k0 nm l) g word = acc at *
    obtain ⟨S, n⟩ := rr
    go_enter Tryz.func65, Tryz.ntmps65
    go_wp2_with (go_at_call 128; refine (HMC.out _ (Upd.alloc1 _ _ _)).mono ?_; rintro e w1 ⟨mb, rfl, hmac, hu⟩; have HU := As.mk (Upd.trans (Upd.alloc1 (fun _ => False) _ _) hu (fun _ _ h => h)); have HMAC := As.mk hmac; clear hmac hu; apply As.out)
    refine ⟨?_⟩
    have HRUN := As.mk (run_calls (c := cw) HMAC.out HO.out (Rp.row_pure HW.out HU.out) hb)
    rw [← HRR.out] at HRUN
    go_wp2_with (go_at_call 129; refine HRUN.out.mono ?_; rintro e w2 ⟨sb, rfl, hset, hu2⟩; have HS2 := As.mk (And.intro hset hu2); clear hset hu2)
    go_ret
    refine ⟨?_, HU.out.trans HS2.out.2 (fun _ _ h => h)⟩
    rw [HE.out]
    rfl
  · have HMC := As.mk (fun (W : World) (hu : Pure w W) => (HM.out.pure hu).noC (c := c) (d := d) hc)
    have HE := As.mk (show regBegins (.mk k0 nm l) g word = 0 by unfold regBegins; rw [if_neg hc])
    clear hm hw hc
    go_enter Tryz.func65, Tryz.ntmps65
    go_wp2_with (go_at_call 128; refine (HMC.out _ (Upd.alloc1 _ _ _)).mono ?_; rintro e w1 ⟨rfl, hu⟩; have HU := As.mk (Upd.trans (Upd.alloc1 (fun _ => False) _ _) hu (fun _ _ h => h)); clear hu)
    go_ret
    exact ⟨by rw [HE.out]; rfl, HU.out⟩
end Go.Proofs.YtofjodppljnlaaaGreatDoor
