/- schema.New: how the schema grows (plain part). -/
import Derived.Test.YtfapglhdakhbeaaDoorNames
import Derived.Test.YtfapglhdakhbeaaDoorPars5
import Derived.Test.YtfapglhdakhbeaaDoorApp
import Derived.Test.YtfapglhdakhbeaaDoorSl
namespace Go.Proofs.YtfapglhdakhbeaaDoor
open Go.RowKit
set_option linter.unusedVariables false
set_option linter.unusedSimpArgs false

/-- append(v, x) of one element at a drawn region's step: x's cells lie in the newest block. -/
theorem Rp.step_append_one {α : Type} (d : Rp α) {P : Program} {ops : Array Oper} {o : Oper} {a : Act} {Q : Exit → Act → World → Prop} {K : Act → World → Prop} {E : Prop} {e : Nat} {W : World} {F Fp G : Nat → Prop} {v : Value} {xs : List α} (HO : d.own e W F v xs) (p : α) (cs : List Value) (hp : d.rep W Fp p cs)
    (hFp : ∀ k, Fp k → k < W.heap.size → G k ∧ some k ≠ v.ownBlock) (hFG : ∀ k, F k → G k) (hnew : ∀ k, W.heap.size ≤ k → G k)
    (hgd : o.guard = none) (s x : Operand) (t : TypeId) (z : Value) (bytes : Nat)
    (ho : o.op = .call { callee := .builtin .append, args := #[s, x], argTypes := #[t, t] })
    (ht : P.underlying t = some (.slice e)) (hinfo : (P.info? e).map (fun i => (i.zero, i.size, i.bytes)) = some (some z, d.sz, bytes)) (hz : z.cells.size = d.sz) (hs0 : 0 < d.sz) (hb0 : 0 < bytes)
    (hs : a.eval s = v) {n : Nat} (hnb : n = W.heap.size) (hx : a.eval x = .slice (some ⟨n, 0, none⟩) 1 1) (hl : (xs.length + 1) * bytes ≤ 140737488355328)
    (h : ∀ v1 w1, d.own e w1 G v1 (xs ++ [p]) → Upd (fun k => v.ownBlock = some k) W w1 → K (a.put o.dst v1) w1) :
    if Region.wanted o (yielded ops a.tmps) = true then Oper.wp P o a (W.alloc (.cells cs.toArray e)) K Q else E := by
  have hp1 : d.rep (W.alloc (.cells cs.toArray e)) (fun k => Fp k ∧ k < W.heap.size) p cs := d.move (fun k hk hl => ⟨⟨hk, hl⟩, by simp; omega, Below.heap_alloc W _ k hl⟩) hp
  refine Rp.step_append_row d (c := 1) (Rp.own_alloc HO (.cells cs.toArray e)) (Rp.row'_one hp1 (heap_alloc_new W _)) (fun k hk _ => (hFp k hk.1 hk.2).2) hgd s x t z bytes ho ht hinfo hz hs0 hb0 hs (by rw [hx, hnb]; rfl) (by simpa using hl) ?_
  intro v1 w1 ho1 hu1 hat
  refine h v1 w1 (Rp.own_fp ho1 (fun k hk => ?_)) ((Upd.alloc1 _ _ _).trans hu1 (fun _ _ h => h))
  rcases hk with hk | hk | hk
  · exact hFG k hk.1
  · exact (hFp k hk.1 hk.2).1
  · rcases hat with hat | ⟨b, hb, hle⟩
    · rw [hat] at hk
      exact hFG k (Rp.own_block_lt HO k hk).1
    · rw [hb] at hk
      injection hk with hk
      have h9 : W.heap.size + 1 ≤ b := by simpa using hle
      exact hnew k (by omega)

/-- A slice's literal of one element: its own row. -/
theorem Rp.own_lit {α : Type} (d : Rp α) {e : Nat} {W : World} {Fp G : Nat → Prop} (p : α) (cs : List Value) (hp : d.rep W Fp p cs) (hFp : ∀ k, Fp k → k < W.heap.size → G k) (hnew : G W.heap.size) :
    d.own e (W.alloc (.cells cs.toArray e)) G (.slice (some ⟨W.heap.size, 0, none⟩) 1 1) [p] := by
  have hl := d.len hp
  refine ⟨cs, ⟨by simp [hl], .inr ⟨W.heap.size, 1, cs.toArray, rfl, Nat.zero_le _, heap_alloc_new W _, Nat.le_refl _, by unfold maxLen; omega, by simp [hl], ?_⟩⟩, ?_, Reps.single (d.move (fun k hk hl => ?_) hp) hl⟩
  · simp only [List.length_singleton, Nat.one_mul]
    rw [← hl, List.take_length]
  · intro k hk
    injection hk with hk
    rw [← hk]
    exact hnew
  · refine ⟨⟨hFp k hk hl, ?_⟩, by simp; omega, Below.heap_alloc W _ k hl⟩
    intro h
    injection h with h
    have h9 : k = W.heap.size := h
    omega

abbrev ruleR : Rp (Spec × Ex) := Rp.pair specR exR
theorem grp_info : (Tryd.prog.info? 62).map (fun i => (i.zero, i.size, i.bytes)) = some (some (.agg #[.string ⟨#[]⟩, .slice none 0 0]), 2, 40) := by kernel_rfl

/-- The schema while its groups are told. -/
structure NewG (w0 : World) (cb : Nat) (Gv : Value) (gs : List Grp) (wr : World) : Prop where
  blk : wr.heap[cb]? = some (.cells #[.slice none 0 0, Gv] 73 (0, 0))
  grps : grpR.own 62 wr (fun k => w0.heap.size ≤ k ∧ k ≠ cb) Gv gs
  up : Pure w0 wr
  cbn : w0.heap.size ≤ cb
theorem NewG.cells {w0 wr : World} {cb : Nat} {Gv : Value} {gs : List Grp} (h : NewG w0 cb Gv gs wr) : wr.cell? ⟨cb, 0, none⟩ = some (.slice none 0 0) ∧ wr.cell? ⟨cb, 1, none⟩ = some Gv ∧ wr.frozen? ⟨cb, 0, none⟩ = false ∧ wr.frozen? ⟨cb, 1, none⟩ = false ∧ cb < wr.heap.size := by
  have hb := h.blk
  refine ⟨?_, ?_, ?_, ?_, (Array.getElem?_eq_some_iff.1 hb).1⟩
  · unfold World.cell?; simp only [hb]; rfl
  · unfold World.cell?; simp only [hb]; rfl
  · simp [World.frozen?, hb]
  · simp [World.frozen?, hb]
theorem NewG.kept {w0 wr w1 : World} {cb : Nat} {Gv : Value} {gs : List Grp} (h : NewG w0 cb Gv gs wr) (hu : Pure wr w1) : NewG w0 cb Gv gs w1 :=
  ⟨(hu.block cb h.cells.2.2.2.2 (fun h => h)).trans h.blk, Rp.own_upd h.grps hu (fun _ _ _ h => h), h.up.trans hu (fun _ _ h => h), h.cbn⟩
theorem NewG.next {w0 wr w2 : World} {cb : Nat} {Gv v1 : Value} {gs : List Grp} {x : Grp} (h : NewG w0 cb Gv gs wr) (ho : grpR.own 62 w2 (fun k => w0.heap.size ≤ k ∧ k ≠ cb) v1 (gs ++ [x])) (hu : Upd (fun k => Gv.ownBlock = some k) wr w2) :
    NewG w0 cb v1 (gs ++ [x]) (w2.setCell ⟨cb, 1, none⟩ v1) := by
  have hn : ¬ Gv.ownBlock = some cb := fun e => (Rp.own_block_lt h.grps cb e).1.2 rfl
  have hb2 := (hu.block cb h.cells.2.2.2.2 hn).trans h.blk
  refine ⟨by simp [World.setCell, Array.getElem?_modify, hb2], Rp.own_upd ho (Upd.setCell1 (S := fun q => q = cb) w2 rfl v1) (fun k _ hk => hk.2), (h.up.trans hu (fun q hq e => ?_)).setCell (fun hq => ?_) _, h.cbn⟩
  · have := (Rp.own_block_lt h.grps q e).1.1
    omega
  · have := h.cbn
    simp at hq
    omega
theorem new_fp {wr : World} {cb q : Nat} {v : Value} {o : Obj} {P : Prop} (hcb : cb < wr.heap.size) (hat : v.ownBlock = some wr.heap.size ∨ ∃ b, v.ownBlock = some b ∧ (wr.alloc o).heap.size ≤ b) (hq : (wr.heap.size ≤ q ∧ P) ∨ False ∨ v.ownBlock = some q) : q ≠ cb := by
  rcases hq with hq | hq | hq
  · have := hq.1
    omega
  · exact hq.elim
  · rcases hat with h | ⟨b, hb, hle⟩
    · rw [h] at hq
      injection hq with hq
      omega
    · rw [hb] at hq
      injection hq with hq
      have h9 : wr.heap.size + 1 ≤ b := by simpa using hle
      omega
/-- The schema while its rules are told. -/
structure NewL (w6 : World) (cb : Nat) (Lv Gv : Value) (rs : List (Spec × Ex)) (wr : World) : Prop where
  blk : wr.heap[cb]? = some (.cells #[Lv, Gv] 73 (0, 0))
  rules : ruleR.own 82 wr (fun k => w6.heap.size ≤ k) Lv rs
  up : Upd (fun k => k = cb) w6 wr
  cbl : cb < w6.heap.size
theorem NewL.start {w0 w6 : World} {cb : Nat} {Gv : Value} {gs : List Grp} (h : NewG w0 cb Gv gs w6) : NewL w6 cb (.slice none 0 0) Gv [] w6 :=
  ⟨h.blk, Rp.own_nil _ _ _ _, Upd.refl _ _, h.cells.2.2.2.2⟩
theorem NewL.cells {w6 wr : World} {cb : Nat} {Lv Gv : Value} {rs : List (Spec × Ex)} (h : NewL w6 cb Lv Gv rs wr) : wr.cell? ⟨cb, 0, none⟩ = some Lv ∧ wr.cell? ⟨cb, 1, none⟩ = some Gv ∧ wr.frozen? ⟨cb, 0, none⟩ = false ∧ wr.frozen? ⟨cb, 1, none⟩ = false ∧ cb < wr.heap.size := by
  have hb := h.blk
  refine ⟨?_, ?_, ?_, ?_, (Array.getElem?_eq_some_iff.1 hb).1⟩
  · unfold World.cell?; simp only [hb]; rfl
  · unfold World.cell?; simp only [hb]; rfl
  · simp [World.frozen?, hb]
  · simp [World.frozen?, hb]
theorem NewL.kept {w6 wr w1 : World} {cb : Nat} {Lv Gv : Value} {rs : List (Spec × Ex)} (h : NewL w6 cb Lv Gv rs wr) (hu : Pure wr w1) : NewL w6 cb Lv Gv rs w1 :=
  ⟨(hu.block cb h.cells.2.2.2.2 (fun h => h)).trans h.blk, Rp.own_upd h.rules hu (fun _ _ _ h => h), h.up.trans hu (fun _ _ h => h.elim), h.cbl⟩
theorem NewL.next {w6 wr w2 : World} {cb : Nat} {Lv Gv v1 : Value} {rs : List (Spec × Ex)} {x : Spec × Ex} (h : NewL w6 cb Lv Gv rs wr) (ho : ruleR.own 82 w2 (fun k => w6.heap.size ≤ k) v1 (rs ++ [x])) (hu : Upd (fun k => Lv.ownBlock = some k) wr w2) :
    NewL w6 cb v1 Gv (rs ++ [x]) (w2.setCell ⟨cb, 0, none⟩ v1) := by
  have hcl := h.cbl
  have hn : ¬ Lv.ownBlock = some cb := fun e => by
    have := (Rp.own_block_lt h.rules cb e).1
    omega
  have hb2 := (hu.block cb h.cells.2.2.2.2 hn).trans h.blk
  refine ⟨by simp [World.setCell, Array.getElem?_modify, hb2], Rp.own_upd ho (Upd.setCell1 (S := fun q => q = cb) w2 rfl v1) (fun k _ hk e => by omega), (h.up.trans hu (fun q hq e => ?_)).setCell (fun _ => rfl) _, h.cbl⟩
  have := (Rp.own_block_lt h.rules q e).1
  omega
end Go.Proofs.YtfapglhdakhbeaaDoor
