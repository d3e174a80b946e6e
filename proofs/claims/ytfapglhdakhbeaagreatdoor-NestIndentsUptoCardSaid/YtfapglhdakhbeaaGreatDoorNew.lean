/- schema.New: how the schema grows (plain part). schema.New. -/
import Derived.Test.YtfapglhdakhbeaaGreatDoorNames
import Derived.Test.YtfapglhdakhbeaaGreatDoorPars5
import Derived.Test.YtfapglhdakhbeaaGreatDoorHeldZ
import Derived.Test.YtfapglhdakhbeaaGreatDoorSl
namespace Go.Proofs.YtfapglhdakhbeaaGreatDoor
open Go.RowKit
set_option linter.unusedVariables false
set_option linter.unusedSimpArgs false

/-- append(v, x) of one element at a drawn region's step: x's cells lie in the newest block. -/
theorem Rp.step_append_one {α : Type} (d : Rp α) {P : Program} {ops : Array Oper} {o : Oper} {a : Act} {Q : Exit → Act → World → Prop} {K : Act → World → Prop} {E : Prop} {e : Nat} {W : World} {F Fp G : Nat → Prop} {v : Value} {xs : List α} (HO : d.own e W F v xs) (p : α) (cs : List Value) (hp : d.rep W Fp p cs)
    (hFp : ∀ k, Fp k → k < W.heap.size → G k ∧ some k ≠ v.ownBlock) (hFG : ∀ k, F k → G k) (hnew : ∀ k, W.heap.size ≤ k → G k)
    (hgd : o.guard = none) (s x : Operand) (t : TypeId) (z : Value) (bytes : Nat)
    (ho : o.op = .call { callee := .builtin .append, args := #[s, x], argTypes := #[t, t] })
    (ht : P.underlying t = some (.slice e)) (hinfo : (P.info? e).map (fun i => (i.zero, i.size, i.bytes)) = some (some z, d.sz, bytes)) (hz : z.cells.size = d.sz) (hs0 : 0 < d.sz) (hb0 : 0 < bytes)
    (hs : a.eval s = v) {n : Nat} (hnb : n = W.heap.size) (hx : a.eval x = .slice (some ⟨n, 0, none⟩) 1 1) (hl : (xs.length + 1) * bytes ≤ 140737488355328)
    (h : ∀ v1 w1, d.own e w1 G v1 (xs ++ [p]) → Upd (fun k => v.ownBlock = some k) W w1 → K (a.put o.dst v1) w1) :
    if Region.wanted o (yielded ops a.tmps) = true then Oper.wp P o a (W.alloc (.cells cs.toArray e)) K Q else E := by
  have hp1 : d.rep (W.alloc (.cells cs.toArray e)) (fun k => Fp k ∧ k < W.heap.size) p cs := d.move (fun k hk hl => ⟨⟨hk, hl⟩, by simp; omega, Below.heap_alloc W _ k hl⟩) hp
  refine Rp.step_append_row d (c := 1) (Rp.own_alloc HO (.cells cs.toArray e)) (Rp.row'_one hp1 (heap_alloc_new W _)) (fun k hk _ => (hFp k hk.1 hk.2).2) hgd s x t z bytes ho ht hinfo hz hs0 hb0 hs (by rw [hx, hnb]; rfl) (by simpa using hl) ?_
  intro v1 w1 ho1 hu1 hat
  refine h v1 w1 (Rp.own_fp ho1 (fun k hk => ?_)) ((Upd.alloc1 _ _ _).trans hu1 (fun _ _ h => h))
  rcases hk with hk | hk | hk
  · exact hFG k hk.1
  · exact (hFp k hk.1 hk.2).1
  · rcases hat with hat | ⟨b, hb, hle⟩
    · rw [hat] at hk
      exact hFG k (Rp.own_block_lt HO k hk).1
    · rw [hb] at hk
      injection hk with hk
      have h9 : W.heap.size + 1 ≤ b := by simpa using hle
      exact hnew k (by omega)

/-- A slice's literal of one element: its own row. -/
theorem Rp.own_lit {α : Type} (d : Rp α) {e : Nat} {W : World} {Fp G : Nat → Prop} (p : α) (cs : List Value) (hp : d.rep W Fp p cs) (hFp : ∀ k, Fp k → k < W.heap.size → G k) (hnew : G W.heap.size) :
    d.own e (W.alloc (.cells cs.toArray e)) G (.slice (some ⟨W.heap.size, 0, none⟩) 1 1) [p] := by
  have hl := d.len hp
  refine ⟨cs, ⟨by simp [hl], .inr ⟨W.heap.size, 1, cs.toArray, rfl, Nat.zero_le _, heap_alloc_new W _, Nat.le_refl _, by unfold maxLen; omega, by simp [hl], ?_⟩⟩, ?_, Reps.single (d.move (fun k hk hl => ?_) hp) hl⟩
  · simp only [List.length_singleton, Nat.one_mul]
    rw [← hl, List.take_length]
  · intro k hk
    injection hk with hk
    rw [← hk]
    exact hnew
  · refine ⟨⟨hFp k hk hl, ?_⟩, by simp; omega, Below.heap_alloc W _ k hl⟩
    intro h
    injection h with h
    have h9 : k = W.heap.size := h
    omega

abbrev ruleR : Rp (Spec × Ex) := Rp.pair specR exR
theorem grp_info : (Tryz.prog.info? 88).map (fun i => (i.zero, i.size, i.bytes)) = some (some (.agg #[.string ⟨#[]⟩, .slice none 0 0]), 2, 40) := by kernel_rfl

/-- The schema while its groups are told. -/
structure NewG (w0 : World) (cb : Nat) (Gv : Value) (gs : List Grp) (wr : World) : Prop where
  blk : wr.heap[cb]? = some (.cells #[.slice none 0 0, Gv] 100 (0, 0))
  grps : grpR.own 88 wr (fun k => w0.heap.size ≤ k ∧ k ≠ cb) Gv gs
  up : Pure w0 wr
  cbn : w0.heap.size ≤ cb
theorem NewG.cells {w0 wr : World} {cb : Nat} {Gv : Value} {gs : List Grp} (h : NewG w0 cb Gv gs wr) : wr.cell? ⟨cb, 0, none⟩ = some (.slice none 0 0) ∧ wr.cell? ⟨cb, 1, none⟩ = some Gv ∧ wr.frozen? ⟨cb, 0, none⟩ = false ∧ wr.frozen? ⟨cb, 1, none⟩ = false ∧ cb < wr.heap.size := by
  have hb := h.blk
  refine ⟨?_, ?_, ?_, ?_, (Array.getElem?_eq_some_iff.1 hb).1⟩
  · unfold World.cell?; simp only [hb]; rfl
  · unfold World.cell?; simp only [hb]; rfl
  · simp [World.frozen?, hb]
  · simp [World.frozen?, hb]
theorem NewG.kept {w0 wr w1 : World} {cb : Nat} {Gv : Value} {gs : List Grp} (h : NewG w0 cb Gv gs wr) (hu : Pure wr w1) : NewG w0 cb Gv gs w1 :=
  ⟨(hu.block cb h.cells.2.2.2.2 (fun h => h)).trans h.blk, Rp.own_upd h.grps hu (fun _ _ _ h => h), h.up.trans hu (fun _ _ h => h), h.cbn⟩
theorem NewG.next {w0 wr w2 : World} {cb : Nat} {Gv v1 : Value} {gs : List Grp} {x : Grp} (h : NewG w0 cb Gv gs wr) (ho : grpR.own 88 w2 (fun k => w0.heap.size ≤ k ∧ k ≠ cb) v1 (gs ++ [x])) (hu : Upd (fun k => Gv.ownBlock = some k) wr w2) :
    NewG w0 cb v1 (gs ++ [x]) (w2.setCell ⟨cb, 1, none⟩ v1) := by
  have hn : ¬ Gv.ownBlock = some cb := fun e => (Rp.own_block_lt h.grps cb e).1.2 rfl
  have hb2 := (hu.block cb h.cells.2.2.2.2 hn).trans h.blk
  refine ⟨by simp [World.setCell, Array.getElem?_modify, hb2], Rp.own_upd ho (Upd.setCell1 (S := fun q => q = cb) w2 rfl v1) (fun k _ hk => hk.2), (h.up.trans hu (fun q hq e => ?_)).setCell (fun hq => ?_) _, h.cbn⟩
  · have := (Rp.own_block_lt h.grps q e).1.1
    omega
  · have := h.cbn
    simp at hq
    omega
theorem new_fp {wr : World} {cb q : Nat} {v : Value} {o : Obj} {P : Prop} (hcb : cb < wr.heap.size) (hat : v.ownBlock = some wr.heap.size ∨ ∃ b, v.ownBlock = some b ∧ (wr.alloc o).heap.size ≤ b) (hq : (wr.heap.size ≤ q ∧ P) ∨ False ∨ v.ownBlock = some q) : q ≠ cb := by
  rcases hq with hq | hq | hq
  · have := hq.1
    omega
  · exact hq.elim
  · rcases hat with h | ⟨b, hb, hle⟩
    · rw [h] at hq
      injection hq with hq
      omega
    · rw [hb] at hq
      injection hq with hq
      have h9 : wr.heap.size + 1 ≤ b := by simpa using hle
      omega
/-- The schema while its rules are told. -/
structure NewL (w6 : World) (cb : Nat) (Lv Gv : Value) (rs : List (Spec × Ex)) (wr : World) : Prop where
  blk : wr.heap[cb]? = some (.cells #[Lv, Gv] 100 (0, 0))
  rules : ruleR.own 97 wr (fun k => w6.heap.size ≤ k) Lv rs
  up : Upd (fun k => k = cb) w6 wr
  cbl : cb < w6.heap.size
theorem NewL.start {w0 w6 : World} {cb : Nat} {Gv : Value} {gs : List Grp} (h : NewG w0 cb Gv gs w6) : NewL w6 cb (.slice none 0 0) Gv [] w6 :=
  ⟨h.blk, Rp.own_nil _ _ _ _, Upd.refl _ _, h.cells.2.2.2.2⟩
theorem NewL.cells {w6 wr : World} {cb : Nat} {Lv Gv : Value} {rs : List (Spec × Ex)} (h : NewL w6 cb Lv Gv rs wr) : wr.cell? ⟨cb, 0, none⟩ = some Lv ∧ wr.cell? ⟨cb, 1, none⟩ = some Gv ∧ wr.frozen? ⟨cb, 0, none⟩ = false ∧ wr.frozen? ⟨cb, 1, none⟩ = false ∧ cb < wr.heap.size := by
  have hb := h.blk
  refine ⟨?_, ?_, ?_, ?_, (Array.getElem?_eq_some_iff.1 hb).1⟩
  · unfold World.cell?; simp only [hb]; rfl
  · unfold World.cell?; simp only [hb]; rfl
  · simp [World.frozen?, hb]
  · simp [World.frozen?, hb]
theorem NewL.kept {w6 wr w1 : World} {cb : Nat} {Lv Gv : Value} {rs : List (Spec × Ex)} (h : NewL w6 cb Lv Gv rs wr) (hu : Pure wr w1) : NewL w6 cb Lv Gv rs w1 :=
  ⟨(hu.block cb h.cells.2.2.2.2 (fun h => h)).trans h.blk, Rp.own_upd h.rules hu (fun _ _ _ h => h), h.up.trans hu (fun _ _ h => h.elim), h.cbl⟩
theorem NewL.next {w6 wr w2 : World} {cb : Nat} {Lv Gv v1 : Value} {rs : List (Spec × Ex)} {x : Spec × Ex} (h : NewL w6 cb Lv Gv rs wr) (ho : ruleR.own 97 w2 (fun k => w6.heap.size ≤ k) v1 (rs ++ [x])) (hu : Upd (fun k => Lv.ownBlock = some k) wr w2) :
    NewL w6 cb v1 Gv (rs ++ [x]) (w2.setCell ⟨cb, 0, none⟩ v1) := by
  have hcl := h.cbl
  have hn : ¬ Lv.ownBlock = some cb := fun e => by
    have := (Rp.own_block_lt h.rules cb e).1
    omega
  have hb2 := (hu.block cb h.cells.2.2.2.2 hn).trans h.blk
  refine ⟨by simp [World.setCell, Array.getElem?_modify, hb2], Rp.own_upd ho (Upd.setCell1 (S := fun q => q = cb) w2 rfl v1) (fun k _ hk e => by omega), (h.up.trans hu (fun q hq e => ?_)).setCell (fun _ => rfl) _, h.cbl⟩
  have := (Rp.own_block_lt h.rules q e).1
  omega
end Go.Proofs.YtfapglhdakhbeaaGreatDoor
namespace Go.Proofs.YtfapglhdakhbeaaGreatDoor
open Go.RowKit
set_option linter.unusedVariables false
set_option linter.unusedSimpArgs false

def wholeSpec (s : ByteArray) : Spec := ⟨⟨#[]⟩, s, false, 0, 0, 0, false⟩
theorem spec_info : (Tryz.prog.info? 34).map (fun i => (i.zero, i.size, i.bytes)) = some (some (wholeSpec ⟨#[]⟩).val, 7, 72) := by kernel_rfl
def ownGroups (l : List Spec) : List Grp := l.mapIdx fun i s => ⟨s.name, [(i : Int) + 1]⟩
def newGroups (l : List Spec) (g : List Grp) : List Grp := ⟨textName, [0]⟩ :: (ownGroups l ++ g)
theorem ownGroups_take {l : List Spec} {k : Nat} {x : Spec} (hx : l[k]? = some x) : (ownGroups l).take (k + 1) = (ownGroups l).take k ++ [⟨x.name, [(k : Int) + 1]⟩] := by
  rw [List.take_add_one]
  simp [ownGroups, hx]
theorem ownGroups_length (l : List Spec) : (ownGroups l).length = l.length := by simp [ownGroups]

/-- A schema that New made. -/
def SchR (w : World) (cb : Nat) (rs : List (Spec × Ex)) (gs : List Grp) : Prop := ∃ AL cL AG cG, w.heap[cb]? = some (.cells #[.slice AL rs.length cL, .slice AG gs.length cG] 100 (0, 0)) ∧ rs.length ≤ cL ∧ ruleR.row w (fun _ => True) AL rs ∧ grpR.row w (fun _ => True) AG gs
theorem SchR.pure {w w1 : World} {cb : Nat} {rs : List (Spec × Ex)} {gs : List Grp} (h : SchR w cb rs gs) (hu : Pure w w1) : SchR w1 cb rs gs := by
  obtain ⟨AL, cL, AG, cG, h1, h2, h3, h4⟩ := h
  exact ⟨AL, cL, AG, cG, (hu.block cb (Array.getElem?_eq_some_iff.1 h1).1 (fun h => h)).trans h1, h2, Rp.row_pure h3 hu, Rp.row_pure h4 hu⟩
theorem newGroups_types {l : List Spec} {g : List Grp} (h : ∀ x ∈ g, x.name.size ≤ 1048576 ∧ x.types.length ≤ 1000) : ∀ x ∈ newGroups l g, x.types.length ≤ 1048576 := by
  intro x hx
  simp only [newGroups, ownGroups, List.mem_cons, List.mem_append, List.mem_mapIdx] at hx
  rcases hx with rfl | ⟨i, hi, rfl⟩ | hx
  · decide
  · show 1 ≤ 1048576
    decide
  · have := (h x hx).2
    omega
theorem ex_rep {w : World} {F : Nat → Prop} {e : Ex} {A : Option Addr} {c : Nat} (hl : e.l.length ≤ c) (h : exR.row w F A e.l) : exR.rep w F e [.int .i64 e.k, .string e.name, .slice A e.l.length c] := by
  cases e
  exact ExRep.of_parts hl h
theorem rule_info : (Tryz.prog.info? 97).map (fun i => (i.zero, i.size, i.bytes)) = some (some (.agg #[.string ⟨#[]⟩, .string ⟨#[]⟩, .bool false, .int .i64 0, .int .i64 0, .int .i64 0, .bool false, .int .i64 0, .string ⟨#[]⟩, .slice none 0 0]), 10, 120) := by kernel_rfl
set_option maxRecDepth 100000 in
set_option maxHeartbeats 4000000 in
theorem New_calls {w : World} {F G : Nat → Prop} {A Bg : Option Addr} {c d : Nat} {whole : ByteArray} {l : List Spec} {g : List Grp} {es : List Ex} (hr : specR.row w F A l) (hg : grpR.row w G Bg g) (hl : l.length < 16) (hgl : g.length ≤ 16)
    (hls : ∀ x ∈ l, x.name.size ≤ 1048576) (hgs : ∀ x ∈ g, x.name.size ≤ 1048576 ∧ x.types.length ≤ 1000) (hnm : namesB l g = true) (hft : l.any (fun x => !fitsB x) = false) (hes : es.length = l.length + 1)
    (hpe : ∀ (k : Nat) (s : Spec) (e : Ex), (wholeSpec whole :: l)[k]? = some s → es[k]? = some e → ParsesTo s.expr e ∧ regCheck e (newGroups l g) = 0 ∧ e.wt ≤ 1048576) :
    Calls Tryz.prog 66 #[.string whole, .slice A l.length c, .slice Bg g.length d] w fun r w' => ∃ cb, r = .returned (.tuple #[.pointer (some ⟨cb, 0, none⟩), .int .i64 0]) ∧ SchR w' cb ((wholeSpec whole :: l).zip es) (newGroups l g) ∧ w.heap.size ≤ cb ∧ Pure w w' := by
  have HR := As.mk hr
  have HG := As.mk hg
  have HLS := As.mk hls
  have HGS := As.mk hgs
  have HNA := As.mk (names_calls (c := c) (d := d) hr hg (by omega) (by omega) (fun x hx => by have := hls x hx; omega) (fun x hx => by have := (hgs x hx).1; omega))
  rw [hnm] at HNA
  have HFT := As.mk (fun W (hu : Pure w W) => ContainsFuncS_calls (c := c) (F := F) (fun x => !fitsB x) (Rp.row_pure hr hu) (by omega) (fun x _ w1 _ => new1_calls x w1))
  have HFN := As.mk hft
  have HPE := As.mk hpe
  have t1 : decide (((l.length : Int)) ≥ 16) = false := by simp; omega
  have t2 : decide ((16 : Int) ≤ (l.length : Int)) = false := by simp; omega
  have t3 : decide (16 ≤ l.length) = false := by simp; omega
  have t4 : decide (((g.length : Int)) > 16) = false := by simp; omega
  have t5 : decide ((16 : Int) < (g.length : Int)) = false := by simp; omega
  have t6 : decide (16 < g.length) = false := by simp; omega
  clear hr hg hls hgs hnm hft hpe
  go_enter Tryz.func66, Tryz.ntmps66
  go_wp2_with (first | (go_at_call 127; refine (HFT.out _ HUA.out).mono ?_; rintro e w2 ⟨rfl, hu⟩; rw [HFN.out]; have HUB := As.mk (HUA.out.trans hu (fun _ _ h => h)); clear hu; apply As.out) | (go_at_call 126; refine HNA.out.mono ?_; rintro e w1 ⟨rfl, hu⟩; have HUA := As.mk hu; clear hu))
  refine ⟨?_⟩
  have HN0 : As (NewG w (w2.heap.size + 1 + 1) (.slice (some ⟨w2.heap.size + 1, 0, none⟩) 1 1) (⟨textName, [0]⟩ :: (ownGroups l).take 0) (((w2.alloc (.cells #[.int .i64 0] 3)).alloc (.cells #[.string textName, .slice (some ⟨w2.heap.size, 0, none⟩) 1 1] 88)).alloc (.cells #[.slice none 0 0, .slice (some ⟨w2.heap.size + 1, 0, none⟩) 1 1] 100))) := ⟨by
    have hz := HUB.out.size
    have e1 : (w2.alloc (.cells #[.int .i64 0] 3)).heap.size = w2.heap.size + 1 := by simp
    have e2 : ((w2.alloc (.cells #[.int .i64 0] 3)).alloc (.cells #[.string textName, .slice (some ⟨w2.heap.size, 0, none⟩) 1 1] 88)).heap.size = w2.heap.size + 1 + 1 := by simp
    have hty := heap_alloc_new w2 (.cells #[.int .i64 0] 3)
    have hrow : intR.row (w2.alloc (.cells #[.int .i64 0] 3)) (fun k => k = w2.heap.size) (some ⟨w2.heap.size, 0, none⟩) [0] := Rp.row_of_block hty rfl (Reps.single (show intR.rep _ _ (0 : Int) [.int .i64 0] from rfl) rfl)
    have ho := Rp.own_lit (e := 88) grpR (G := fun k => w.heap.size ≤ k ∧ k ≠ w2.heap.size + 1 + 1) (⟨textName, [0]⟩ : Grp) [.string textName, .slice (some ⟨w2.heap.size, 0, none⟩) 1 1] ⟨_, _, rfl, Nat.le_refl _, hrow⟩ (fun k hk _ => by subst hk; omega) (by rw [e1]; omega)
    rw [e1] at ho
    have hcb := heap_alloc_new ((w2.alloc (.cells #[.int .i64 0] 3)).alloc (.cells #[.string textName, .slice (some ⟨w2.heap.size, 0, none⟩) 1 1] 88)) (.cells #[.slice none 0 0, .slice (some ⟨w2.heap.size + 1, 0, none⟩) 1 1] 100)
    rw [e2] at hcb
    exact ⟨hcb, Rp.own_alloc ho _, ((HUB.out.alloc _).alloc _).alloc _, by omega⟩⟩
  have HCB := As.mk (show w.heap.size ≤ w2.heap.size + 1 + 1 by have := HUB.out.size; omega)
  go_wp2
  go_loopg [43] l.length (fun gg i wr => ∃ k : Nat, k + gg = l.length ∧ i = .int .i64 k ∧ As (∃ Gv, NewG w (w2.heap.size + 1 + 1) Gv (⟨textName, [0]⟩ :: (ownGroups l).take k) wr))
  case atStart => exact ⟨0, by omega, rfl, ⟨_, HN0.out⟩⟩
  case round =>
    obtain ⟨k, hk, rfl, HP⟩ := hrel
    by_cases hlt : k < l.length
    · obtain ⟨x, hx⟩ : ∃ x, l[k]? = some x := ⟨_, List.getElem?_eq_getElem hlt⟩
      obtain ⟨g1, rfl⟩ : ∃ m, gk = m + 1 := ⟨gk - 1, by omega⟩
      obtain ⟨Gv, hN⟩ := HP.out
      obtain ⟨bx, ox, rfl, hFb, hbb, d0, d1, d2, d3, d4, d5, d6⟩ := spec_at (Rp.row_pure HR.out hN.up) hx
      have HK := As.mk hk
      have HX := As.mk (ownGroups_take hx)
      have hwrap : IntKind.i64.wrap ((k : Int) + 1) = (k : Int) + 1 := IntWalk.i64_in _ (by omega)
      obtain ⟨W, hW⟩ : ∃ W, W = wr.alloc (.cells #[.string x.name, .string x.expr, .bool x.leaf, .int .i64 x.marks, .int .i64 x.least, .int .i64 x.most, .bool x.lines] 34) := ⟨_, rfl⟩
      have HN := As.mk ((hN.kept (hW ▸ Upd.alloc1 _ _ _ : Pure wr W)).kept ((Upd.refl (fun _ => False) W).drew))
      have hWs : W.heap.size = wr.heap.size + 1 := by subst hW; simp
      have hWb : W.heap[wr.heap.size]? = some (.cells #[.string x.name, .string x.expr, .bool x.leaf, .int .i64 x.marks, .int .i64 x.least, .int .i64 x.most, .bool x.lines] 34) := hW ▸ heap_alloc_new wr _
      have HWS := As.mk hWs
      have HSK : As (∀ v, Upd (fun q => Gv.ownBlock = some q) W.drew v → v.cell? ⟨w2.heap.size + 1 + 1, 1, none⟩ = some Gv ∧ v.frozen? ⟨w2.heap.size + 1 + 1, 1, none⟩ = false ∧ v.cell? ⟨wr.heap.size, 0, none⟩ = some (.string x.name)) := ⟨by
        intro v hu
        obtain ⟨f0, f1, f2, f3, f4⟩ := HN.out.cells
        have n1 : ¬ Gv.ownBlock = some (w2.heap.size + 1 + 1) := fun e => (Rp.own_block_lt HN.out.grps _ e).1.2 rfl
        have n2 : ¬ Gv.ownBlock = some wr.heap.size := fun e => by have := (Rp.own_block_lt hN.grps _ e).2; omega
        have hb : W.drew.heap.size = W.heap.size := rfl
        refine ⟨(hu.cell f4 n1).trans f1, (hu.frozen f4 n1).trans f3, (hu.cell (by omega) n2).trans ?_⟩
        show W.cell? _ = _
        unfold World.cell?; simp only [hWb]; rfl⟩
      have HTY : As (grpR.rep (W.drew.alloc (.cells #[.int .i64 ((k : Int) + 1)] 3)) (fun q => q = W.heap.size) (⟨x.name, [(k : Int) + 1]⟩ : Grp) [.string x.name, .slice (some ⟨W.heap.size, 0, none⟩) 1 1]) := ⟨⟨_, _, rfl, Nat.le_refl _, Rp.row_of_block (heap_alloc_new W.drew (.cells #[.int .i64 ((k : Int) + 1)] 3)) rfl (Reps.single (show intR.rep _ _ ((k : Int) + 1) [.int .i64 ((k : Int) + 1)] from rfl) rfl)⟩⟩
      have HSZ := As.mk (show w.heap.size ≤ W.heap.size ∧ w2.heap.size + 1 + 1 < W.heap.size from ⟨HN.out.up.size, HN.out.cells.2.2.2.2⟩)
      have HFP : As (∀ q, q = W.heap.size → q < (W.drew.alloc (.cells #[.int .i64 ((k : Int) + 1)] 3)).heap.size → (w.heap.size ≤ q ∧ q ≠ w2.heap.size + 1 + 1) ∧ some q ≠ Gv.ownBlock) := ⟨fun q hq _ => by
        have := HSZ.out
        refine ⟨by omega, fun e => ?_⟩
        have h9 : q < W.heap.size := (Rp.own_block_lt HN.out.grps q e.symm).2
        omega⟩
      have HNEW : As (∀ q, (W.drew.alloc (.cells #[.int .i64 ((k : Int) + 1)] 3)).heap.size ≤ q → w.heap.size ≤ q ∧ q ≠ w2.heap.size + 1 + 1) := ⟨fun q hq => by
        have := HSZ.out
        have h8 : (W.drew.alloc (.cells #[.int .i64 ((k : Int) + 1)] 3)).heap.size = W.drew.heap.size + 1 := by simp
        have h9 : W.drew.heap.size = W.heap.size := rfl
        omega⟩
      have HNB : As (W.heap.size + 1 = (W.drew.alloc (.cells #[.int .i64 ((k : Int) + 1)] 3)).heap.size) := ⟨by
        have h8 : (W.drew.alloc (.cells #[.int .i64 ((k : Int) + 1)] 3)).heap.size = W.drew.heap.size + 1 := by simp
        have h9 : W.drew.heap.size = W.heap.size := rfl
        omega⟩
      have HLEN : As ((((⟨textName, [0]⟩ : Grp) :: (ownGroups l).take k).length + 1) * 40 ≤ 140737488355328) := ⟨by
        simp only [List.length_cons, List.length_take, ownGroups_length]
        omega⟩
      have hdec : decide ((k : Int) < (l.length : Int)) = true := by simp; omega
      clear hk hx hWs hWb hN
      go_wp2
      rw [← hW]
      clear hW
      refine wp_region_T (P := Tryz.prog) (fun v => v.cell? ⟨w2.heap.size + 1 + 1, 1, none⟩ = some Gv ∧ v.frozen? ⟨w2.heap.size + 1 + 1, 1, none⟩ = false ∧ v.cell? ⟨wr.heap.size, 0, none⟩ = some (.string x.name)) 15 (by kernel_rfl) ?_ (fun hHeld => ?_)
      · first | exact HSK.out _ (Upd.refl _ _) | exact HSK.out _ (Upd.alloc1 _ _ _) | exact HSK.out _ ((Upd.alloc1 _ _ _).alloc _) | exact HSK.out _ HU4.out
      refine zT 0 ?_
      refine zT 1 ?_
      refine zT 2 ?_
      refine zT 3 ?_
      (try simp only [Act.put, List.setIfInBounds_toArray, List.set_cons_zero, List.set_cons_succ])
      refine zT 4 ?_
      refine zT 5 ?_
      refine zT 6 ?_
      refine zT 7 ?_
      (try simp only [Act.put, List.setIfInBounds_toArray, List.set_cons_zero, List.set_cons_succ])
      refine zT 8 ?_
      refine oT 9 (fun K hK => ?_)
      go_simp
      refine hK.out _ _ (fun _ => by first | exact HSK.out _ (Upd.refl _ _) | exact HSK.out _ (Upd.alloc1 _ _ _) | exact HSK.out _ ((Upd.alloc1 _ _ _).alloc _) | exact HSK.out _ HU4.out) (fun hHeld => ?_)
      replace hHeld := hHeld (by decide)
      clear hK K
      (try simp only [Act.put, List.setIfInBounds_toArray, List.set_cons_zero, List.set_cons_succ])
      refine zT 10 ?_
      refine oT 11 (fun K hK => ?_)
      go_simp
      refine hK.out _ _ (fun _ => by first | exact HSK.out _ (Upd.refl _ _) | exact HSK.out _ (Upd.alloc1 _ _ _) | exact HSK.out _ ((Upd.alloc1 _ _ _).alloc _) | exact HSK.out _ HU4.out) (fun hHeld => ?_)
      replace hHeld := hHeld (by decide)
      clear hK K
      (try simp only [Act.put, List.setIfInBounds_toArray, List.set_cons_zero, List.set_cons_succ])
      refine oT 12 (fun K hK => ?_)
      refine Rp.step_append_one grpR (W := W.drew.alloc (.cells #[.int .i64 ((k : Int) + 1)] 3)) (F := fun q => w.heap.size ≤ q ∧ q ≠ w2.heap.size + 1 + 1) (Fp := fun q => q = W.heap.size) (G := fun q => w.heap.size ≤ q ∧ q ≠ w2.heap.size + 1 + 1) (Rp.own_alloc HN.out.grps _) (⟨x.name, [(k : Int) + 1]⟩ : Grp) [.string x.name, .slice (some ⟨W.heap.size, 0, none⟩) 1 1] (HTY.out) (HFP.out) (fun _ h => h) (HNEW.out) (by rfl) _ _ 89 (.agg #[.string ⟨#[]⟩, .slice none 0 0]) 40 (by rfl) Tryz.underlying89 grp_info rfl (by decide) (by decide) (by rfl) (n := W.heap.size + 1) HNB.out (by rfl) (HLEN.out) ?_; intro v4 w4 ho4 hu4; obtain ⟨A4, c4, rfl, _, _⟩ := Rp.own_slice ho4; have HO4 := As.mk ho4; have HU4 := As.mk (show Upd (fun q => Gv.ownBlock = some q) W.drew w4 from (Upd.alloc1 _ _ _).trans hu4 (fun _ _ h => h)); obtain ⟨s1, s2, s3⟩ := HSK.out w4 HU4.out; clear ho4 hu4
      refine hK.out _ _ (fun _ => by first | exact HSK.out _ (Upd.refl _ _) | exact HSK.out _ (Upd.alloc1 _ _ _) | exact HSK.out _ ((Upd.alloc1 _ _ _).alloc _) | exact HSK.out _ HU4.out) (fun hHeld => ?_)
      replace hHeld := hHeld (by decide)
      clear hK K
      (try simp only [Act.put, List.setIfInBounds_toArray, List.set_cons_zero, List.set_cons_succ])
      refine oT 13 (fun K hK => ?_)
      go_simp
      refine hK.out _ _ (fun _ => by first | exact HSK.out _ (Upd.refl _ _) | exact HSK.out _ (Upd.alloc1 _ _ _) | exact HSK.out _ ((Upd.alloc1 _ _ _).alloc _) | exact HSK.out _ HU4.out) (fun hHeld => ?_)
      replace hHeld := hHeld (by decide)
      clear hK K
      (try simp only [Act.put, List.setIfInBounds_toArray, List.set_cons_zero, List.set_cons_succ])
      refine zT 14 ?_
      refine oT 15 (fun K hK => ?_)
      go_simp
      refine hK.out _ _ (fun h => absurd rfl h) (fun hHeld => ?_)
      clear hK K
      (try simp only [Act.put, List.setIfInBounds_toArray, List.set_cons_zero, List.set_cons_succ])
      refine wpAnyT_done (by kernel_rfl) ?_ _
      have hN5 := NewG.next HN.out HO4.out HU4.out
      rw [show (((⟨textName, [0]⟩ : Grp) :: (ownGroups l).take k) ++ ([⟨x.name, [(k : Int) + 1]⟩] : List Grp)).length = min k (ownGroups l).length + 1 + 1 by simp] at hN5
      rw [show ((⟨textName, [0]⟩ : Grp) :: (ownGroups l).take k) ++ [⟨x.name, [(k : Int) + 1]⟩] = ⟨textName, [0]⟩ :: (ownGroups l).take (k + 1) by rw [HX.out]; rfl] at hN5
      have HN5 := As.mk hN5
      clear hN5
      try go_wp2
      go_roundg g1
      case measure => omega
      case rel => exact ⟨k + 1, by have := HK.out; omega, by go_num, ⟨_, HN5.out⟩⟩
    · obtain rfl : k = l.length := by omega
      obtain ⟨Gv, hN⟩ := HP.out
      rw [show (ownGroups l).take l.length = ownGroups l ++ g.take 0 by rw [List.take_of_length_le (by rw [ownGroups_length]; omega)]; simp] at hN
      have HN := As.mk hN
      clear hN HP
      go_wp2
      go_loopg [66] g.length (fun gg i wr => ∃ k : Nat, k + gg = g.length ∧ i = .int .i64 k ∧ As (∃ Gv, NewG w (w2.heap.size + 1 + 1) Gv (⟨textName, [0]⟩ :: (ownGroups l ++ g.take k)) wr))
      case atStart => exact ⟨0, by omega, rfl, ⟨_, HN.out⟩⟩
      case round =>
        obtain ⟨k, hk, rfl, HP⟩ := hrel
        by_cases hlt : k < g.length
        · obtain ⟨x, hx⟩ : ∃ x, g[k]? = some x := ⟨_, List.getElem?_eq_getElem hlt⟩
          obtain ⟨g1, rfl⟩ : ∃ m, gk = m + 1 := ⟨gk - 1, by omega⟩
          clear HN
          obtain ⟨Gv, hN⟩ := HP.out
          obtain ⟨bx, ox, A1x, c1x, rfl, hFb, hbb, d0, d1, hlx, hrx⟩ := grp_at (Rp.row_pure HG.out hN.up) hx
          have HK := As.mk hk
          have hlen := (HGS.out x (List.mem_of_getElem? hx)).2
          have HX := As.mk (show g.take (k + 1) = g.take k ++ [x] by rw [List.take_add_one, hx]; rfl)
          obtain ⟨W, hW⟩ : ∃ W, W = wr.alloc (.cells #[.string x.name, .slice A1x x.types.length c1x] 88) := ⟨_, rfl⟩
          have HN := As.mk ((hN.kept (hW ▸ Upd.alloc1 _ _ _ : Pure wr W)).kept ((Upd.refl (fun _ => False) W).drew))
          have HRX := As.mk (Rp.row_pure (Rp.row_pure hrx (hW ▸ Upd.alloc1 _ _ _ : Pure wr W)) ((Upd.refl (fun _ => False) W).drew))
          have hWs : W.heap.size = wr.heap.size + 1 := by subst hW; simp
          have hWb : W.heap[wr.heap.size]? = some (.cells #[.string x.name, .slice A1x x.types.length c1x] 88) := hW ▸ heap_alloc_new wr _
          have HSK : As (∀ v, Upd (fun q => Gv.ownBlock = some q) W.drew v → v.cell? ⟨w2.heap.size + 1 + 1, 1, none⟩ = some Gv ∧ v.frozen? ⟨w2.heap.size + 1 + 1, 1, none⟩ = false ∧ v.cell? ⟨wr.heap.size, 0, none⟩ = some (.string x.name) ∧ v.cell? ⟨wr.heap.size, 1, none⟩ = some (.slice A1x x.types.length c1x)) := ⟨by
            intro v hu
            obtain ⟨f0, f1, f2, f3, f4⟩ := HN.out.cells
            have n1 : ¬ Gv.ownBlock = some (w2.heap.size + 1 + 1) := fun e => (Rp.own_block_lt HN.out.grps _ e).1.2 rfl
            have n2 : ¬ Gv.ownBlock = some wr.heap.size := fun e => by have := (Rp.own_block_lt hN.grps _ e).2; omega
            have hb : W.drew.heap.size = W.heap.size := rfl
            refine ⟨(hu.cell f4 n1).trans f1, (hu.frozen f4 n1).trans f3, (hu.cell (by omega) n2).trans ?_, (hu.cell (by omega) n2).trans ?_⟩
            · show W.cell? _ = _
              unfold World.cell?; simp only [hWb]; rfl
            · show W.cell? _ = _
              unfold World.cell?; simp only [hWb]; rfl⟩
          have HSZ := As.mk (show w.heap.size ≤ W.heap.size ∧ w2.heap.size + 1 + 1 < W.heap.size from ⟨HN.out.up.size, HN.out.cells.2.2.2.2⟩)
          have HLEN : As ((((⟨textName, [0]⟩ : Grp) :: (ownGroups l ++ g.take k)).length + 1) * 40 ≤ 140737488355328) := ⟨by
            simp only [List.length_cons, List.length_append, List.length_take, ownGroups_length]
            omega⟩
          have hdec : decide ((k : Int) < (g.length : Int)) = true := by simp; omega
          clear hk hx hWs hWb hN hrx
          go_wp2
          rw [← hW]
          clear hW
          refine wp_region_T (P := Tryz.prog) (fun v => v.cell? ⟨w2.heap.size + 1 + 1, 1, none⟩ = some Gv ∧ v.frozen? ⟨w2.heap.size + 1 + 1, 1, none⟩ = false ∧ v.cell? ⟨wr.heap.size, 0, none⟩ = some (.string x.name) ∧ v.cell? ⟨wr.heap.size, 1, none⟩ = some (.slice A1x x.types.length c1x)) 15 (by kernel_rfl) ?_ (fun hHeld => ?_)
          · first | exact HSK.out _ (Upd.refl _ _) | exact HSK.out _ HU5.out | exact HSK.out _ (HU5.out.alloc _) | exact HSK.out _ HU4.out
          refine zT 0 ?_
          refine zT 1 ?_
          refine zT 2 ?_
          refine zT 3 ?_
          (try simp only [Act.put, List.setIfInBounds_toArray, List.set_cons_zero, List.set_cons_succ])
          refine zT 4 ?_
          refine zT 5 ?_
          refine zT 6 ?_
          refine zT 7 ?_
          (try simp only [Act.put, List.setIfInBounds_toArray, List.set_cons_zero, List.set_cons_succ])
          refine zT 8 ?_
          refine oT 9 (fun K hK => ?_)
          go_simp
          (go_at_call 130; refine (Clone_calls HRX.out (by omega)).mono ?_; rintro e w5 ⟨v5, rfl, ho5, hu5⟩; obtain ⟨A5, c5, rfl, hl5, hr5⟩ := Rp.own_slice ho5; have HU5 := As.mk (show Upd (fun q => Gv.ownBlock = some q) W.drew w5 from hu5.mono (fun _ _ h => h.elim)); have HGR := As.mk (Rp.own_upd HN.out.grps hu5 (fun _ _ _ h => h)); have HTY := As.mk (show grpR.rep w5 (fun q => W.heap.size ≤ q) (⟨x.name, x.types⟩ : Grp) [.string x.name, .slice A5 x.types.length c5] from ⟨_, _, rfl, hl5, hr5⟩); have HS5 := As.mk (show W.heap.size ≤ w5.heap.size from hu5.size); clear ho5 hu5 hr5)
          refine hK.out _ _ (fun _ => by first | exact HSK.out _ (Upd.refl _ _) | exact HSK.out _ HU5.out | exact HSK.out _ (HU5.out.alloc _) | exact HSK.out _ HU4.out) (fun hHeld => ?_)
          replace hHeld := hHeld (by decide)
          clear hK K
          (try simp only [Act.put, List.setIfInBounds_toArray, List.set_cons_zero, List.set_cons_succ])
          refine zT 10 ?_
          refine oT 11 (fun K hK => ?_)
          go_simp
          refine hK.out _ _ (fun _ => by first | exact HSK.out _ (Upd.refl _ _) | exact HSK.out _ HU5.out | exact HSK.out _ (HU5.out.alloc _) | exact HSK.out _ HU4.out) (fun hHeld => ?_)
          replace hHeld := hHeld (by decide)
          clear hK K
          (try simp only [Act.put, List.setIfInBounds_toArray, List.set_cons_zero, List.set_cons_succ])
          refine oT 12 (fun K hK => ?_)
          refine Rp.step_append_one grpR (W := w5) (F := fun q => w.heap.size ≤ q ∧ q ≠ w2.heap.size + 1 + 1) (Fp := fun q => W.heap.size ≤ q) (G := fun q => w.heap.size ≤ q ∧ q ≠ w2.heap.size + 1 + 1) HGR.out (⟨x.name, x.types⟩ : Grp) [.string x.name, .slice A5 x.types.length c5] HTY.out (fun q hq _ => ⟨⟨by have := HSZ.out; omega, by have := HSZ.out; omega⟩, fun e => by have h9 : q < W.heap.size := (Rp.own_block_lt HN.out.grps q e.symm).2; omega⟩) (fun _ h => h) (fun q hq => ⟨by have := HSZ.out; have := HS5.out; omega, by have := HSZ.out; have := HS5.out; omega⟩) (by rfl) _ _ 89 (.agg #[.string ⟨#[]⟩, .slice none 0 0]) 40 (by rfl) Tryz.underlying89 grp_info rfl (by decide) (by decide) (by rfl) (n := w5.heap.size) rfl (by rfl) (HLEN.out) ?_; intro v4 w4 ho4 hu4; obtain ⟨A4, c4, rfl, _, _⟩ := Rp.own_slice ho4; have HO4 := As.mk ho4; have HU4 := As.mk (show Upd (fun q => Gv.ownBlock = some q) W.drew w4 from HU5.out.trans hu4 (fun _ _ h => h)); obtain ⟨s1, s2, s3, s4⟩ := HSK.out w4 HU4.out; clear ho4 hu4
          refine hK.out _ _ (fun _ => by first | exact HSK.out _ (Upd.refl _ _) | exact HSK.out _ HU5.out | exact HSK.out _ (HU5.out.alloc _) | exact HSK.out _ HU4.out) (fun hHeld => ?_)
          replace hHeld := hHeld (by decide)
          clear hK K
          (try simp only [Act.put, List.setIfInBounds_toArray, List.set_cons_zero, List.set_cons_succ])
          refine oT 13 (fun K hK => ?_)
          go_simp
          refine hK.out _ _ (fun _ => by first | exact HSK.out _ (Upd.refl _ _) | exact HSK.out _ HU5.out | exact HSK.out _ (HU5.out.alloc _) | exact HSK.out _ HU4.out) (fun hHeld => ?_)
          replace hHeld := hHeld (by decide)
          clear hK K
          (try simp only [Act.put, List.setIfInBounds_toArray, List.set_cons_zero, List.set_cons_succ])
          refine zT 14 ?_
          refine oT 15 (fun K hK => ?_)
          go_simp
          refine hK.out _ _ (fun h => absurd rfl h) (fun hHeld => ?_)
          clear hK K
          (try simp only [Act.put, List.setIfInBounds_toArray, List.set_cons_zero, List.set_cons_succ])
          refine wpAnyT_done (by kernel_rfl) ?_ _
          have hN5 := NewG.next HN.out HO4.out HU4.out
          rw [show (((⟨textName, [0]⟩ : Grp) :: (ownGroups l ++ g.take k)) ++ ([⟨x.name, x.types⟩] : List Grp)).length = (ownGroups l).length + min k g.length + 1 + 1 by (simp only [List.length_cons, List.length_append, List.length_take, List.length_nil])] at hN5
          rw [show ((⟨textName, [0]⟩ : Grp) :: (ownGroups l ++ g.take k)) ++ [⟨x.name, x.types⟩] = ⟨textName, [0]⟩ :: (ownGroups l ++ g.take (k + 1)) by rw [HX.out, List.cons_append, List.append_assoc]] at hN5
          have HN5 := As.mk hN5
          clear hN5
          try go_wp2
          go_roundg g1
          case measure => omega
          case rel => exact ⟨k + 1, by have := HK.out; omega, by go_num, ⟨_, HN5.out⟩⟩
        · obtain rfl : k = g.length := by omega
          clear HN
          obtain ⟨Gv, hN⟩ := HP.out
          rw [show (⟨textName, [0]⟩ : Grp) :: (ownGroups l ++ g.take g.length) = newGroups l g by rw [List.take_length]; rfl] at hN
          have HOS : As (specR.own 34 (wr.alloc (.cells #[.string ⟨#[]⟩, .string whole, .bool false, .int .i64 0, .int .i64 0, .int .i64 0, .bool false] 34)) (fun q => wr.heap.size ≤ q) (.slice (some ⟨wr.heap.size, 0, none⟩) 1 1) [wholeSpec whole]) := ⟨Rp.own_lit (Fp := fun _ => False) specR (wholeSpec whole) (wholeSpec whole).cs rfl (fun _ h _ => h.elim) (Nat.le_refl _)⟩
          have HRL := As.mk (Rp.row_pure HR.out (hN.up.alloc (.cells #[.string ⟨#[]⟩, .string whole, .bool false, .int .i64 0, .int .i64 0, .int .i64 0, .bool false] 34)))
          have HN := As.mk hN
          clear hN HP hlt hk
          go_wp2_with (at_builtin; refine Rp.append_row specR (c := c) HOS.out (Rp.row'_of HRL.out (fun _ _ h => h)) (Fz := fun _ => False) (fun _ h => h.elim) rfl _ _ 85 (wholeSpec ⟨#[]⟩).val 72 rfl Tryz.underlying85 spec_info rfl (by decide) (by decide) rfl rfl (by simp; omega) ?_; intro v6 w6 ho6 hu6 hat6; obtain ⟨A6, c6, rfl, _, hr6⟩ := Rp.own_slice ho6; have HU6 := As.mk (show Pure wr w6 from (Upd.alloc1 _ _ _).trans hu6 (fun q hq e => by injection e with e; (have e9 : q = wr.heap.size := e.symm); omega)); have HR6 := As.mk (show specR.row w6 (fun q => q ≠ w2.heap.size + 1 + 1) A6 (wholeSpec whole :: l) from Rp.row_fp hr6 (fun q hq => new_fp (HN.out.cells.2.2.2.2) hat6 hq)); clear ho6 hu6 hat6 hr6; apply As.out)
          refine ⟨?_⟩
          have HN6 := As.mk (HN.out.kept HU6.out)
          obtain ⟨Ag, cg, hGv, _, hgr⟩ := Rp.own_slice HN6.out.grps
          have HGR := As.mk (Rp.row_fp (G := fun q => q ≠ w2.heap.size + 1 + 1) hgr (fun _ h => h.2))
          have HL6 := As.mk (NewL.start HN6.out)
          clear HN hgr HU6
          subst hGv
          go_wp2
          go_loopg [92] (l.length + 1) (fun gg i wr => ∃ k : Nat, k + gg = l.length + 1 ∧ i = .int .i64 k ∧ As (∃ Lv, NewL w6 (w2.heap.size + 1 + 1) Lv (.slice Ag (newGroups l g).length cg) (((wholeSpec whole :: l).zip es).take k) wr))
          case atStart => exact ⟨0, by omega, rfl, ⟨_, HL6.out⟩⟩
          case round =>
            obtain ⟨k, hk, rfl, HP⟩ := hrel
            by_cases hlt : k < l.length + 1
            · obtain ⟨x, hx⟩ : ∃ x, (wholeSpec whole :: l)[k]? = some x := ⟨_, List.getElem?_eq_getElem (by simpa using hlt)⟩
              obtain ⟨e, he⟩ : ∃ e, es[k]? = some e := ⟨_, List.getElem?_eq_getElem (by omega)⟩
              obtain ⟨g1, rfl⟩ : ∃ m, gk = m + 1 := ⟨gk - 1, by omega⟩
              clear HL6
              obtain ⟨Lv, hN⟩ := HP.out
              obtain ⟨bx, ox, rfl, hFb, hbb, d0, d1, d2, d3, d4, d5, d6⟩ := spec_at (Rp.row_upd HR6.out hN.up (fun q _ h e => h e)) hx
              obtain ⟨hpar, hchk, hwt⟩ := HPE.out k x e hx he
              have HPA := As.mk hpar
              have HCHK := As.mk hchk
              have HK := As.mk hk
              have HN := As.mk hN
              have HX := As.mk (show ((wholeSpec whole :: l).zip es).take (k + 1) = ((wholeSpec whole :: l).zip es).take k ++ [(x, e)] by
                have hz : ((wholeSpec whole :: l).zip es)[k]? = some (x, e) := List.getElem?_zip_eq_some.2 ⟨hx, he⟩
                rw [List.take_add_one, hz]
                rfl)
              have hdec : decide ((k : Int) < (l.length : Int) + 1) = true := by simp; omega
              clear hk hx he hN hpar hchk
              go_wp2_with (go_at_call 131; refine (HPA.out _).mono ?_; rintro r w5 ⟨Ae, ce, rfl, hle, hrow, hu⟩; have HLE := As.mk hle; have HROW := As.mk hrow; have HU5 := As.mk ((Upd.alloc1 (fun _ => False) wr (.cells #[.string x.name, .string x.expr, .bool x.leaf, .int .i64 x.marks, .int .i64 x.least, .int .i64 x.most, .bool x.lines] 34)).trans hu (fun _ _ h => h)); have HSB := As.mk (And.intro ((hu.block wr.heap.size (by simp) (fun h => h)).trans (heap_alloc_new wr (.cells #[.string x.name, .string x.expr, .bool x.leaf, .int .i64 x.marks, .int .i64 x.least, .int .i64 x.most, .bool x.lines] 34))) (show wr.heap.size + 1 ≤ w5.heap.size by have := hu.size; simpa using this)); clear hle hrow hu; apply As.out)
              refine ⟨?_⟩
              go_wp2
              obtain ⟨W, hW⟩ : ∃ W, W = w5.alloc (.cells #[.int .i64 e.k, .string e.name, .slice Ae e.l.length ce] 95) := ⟨_, rfl⟩
              have hp5 : Pure w5 W := hW ▸ Upd.alloc1 _ _ _
              have hpW : Pure wr W.drew := (HU5.out.trans hp5 (fun _ _ h => h)).drew
              have HPW := As.mk hpW
              have hNW := HN.out.kept hpW
              have HNW := As.mk hNW
              have hRW : exR.row W.drew (fun q => wr.heap.size + 1 ≤ q) Ae e.l := Rp.row_fp (Rp.row_pure HROW.out hp5.drew) (fun q hq => by simpa using hq)
              have HRW := As.mk hRW
              have HGW := As.mk (Rp.row_upd HGR.out hNW.up (fun q _ h e => h e))
              have HRC := As.mk (regCheck_calls (c := ce) (d := cg) (e := e) hRW HGW.out (by omega) (by simp only [newGroups, List.length_cons, List.length_append, ownGroups_length]; omega) (newGroups_types HGS.out))
              rw [HCHK.out] at HRC
              have hsp : (wr.alloc (.cells #[.string x.name, .string x.expr, .bool x.leaf, .int .i64 x.marks, .int .i64 x.least, .int .i64 x.most, .bool x.lines] 34)).heap.size = wr.heap.size + 1 := by simp
              have hz5 : wr.heap.size + 1 ≤ w5.heap.size := by have := HSB.out.2; omega
              have hWs : W.heap.size = w5.heap.size + 1 := by subst hW; simp
              have hWe : W.heap[w5.heap.size]? = some (.cells #[.int .i64 e.k, .string e.name, .slice Ae e.l.length ce] 95 (0, 0)) := hW ▸ heap_alloc_new w5 _
              have hWx : W.heap[wr.heap.size]? = some (.cells #[.string x.name, .string x.expr, .bool x.leaf, .int .i64 x.marks, .int .i64 x.least, .int .i64 x.most, .bool x.lines] 34 (0, 0)) := (hp5.block wr.heap.size (by omega) (fun h => h)).trans HSB.out.1
              have HB := As.mk (And.intro hWs (And.intro hWe (And.intro hWx hz5)))
              have HSK : As (∀ v, Pure W.drew v → v.cell? ⟨w2.heap.size + 1 + 1, 1, none⟩ = some (.slice Ag (newGroups l g).length cg) ∧ v.cell? ⟨w5.heap.size, 0, none⟩ = some (.int .i64 e.k) ∧ v.cell? ⟨w5.heap.size, 1, none⟩ = some (.string e.name) ∧ v.cell? ⟨w5.heap.size, 2, none⟩ = some (.slice Ae e.l.length ce)) := ⟨by
                intro v hu
                obtain ⟨f0, f1, f2, f3, f4⟩ := HNW.out.cells
                have hb : W.drew.heap.size = W.heap.size := rfl
                have c5 := (hu.block w5.heap.size (by omega) (fun h => h)).trans (show W.drew.heap[w5.heap.size]? = _ from hWe)
                obtain ⟨⟨q0, q1, q2⟩, _, _⟩ := cells3P c5
                exact ⟨(hu.cell f4 (fun h => h)).trans f1, q0, q1, q2⟩⟩
              rw [← hW]
              clear hW hp5 hpW hNW hRW hsp hz5 hWs hWe hWx d0 d1 d2 d3 d4 d5 d6
              refine wp_region_T (P := Tryz.prog) (fun v => v.cell? ⟨w2.heap.size + 1 + 1, 1, none⟩ = some (.slice Ag (newGroups l g).length cg) ∧ v.cell? ⟨w5.heap.size, 0, none⟩ = some (.int .i64 e.k) ∧ v.cell? ⟨w5.heap.size, 1, none⟩ = some (.string e.name) ∧ v.cell? ⟨w5.heap.size, 2, none⟩ = some (.slice Ae e.l.length ce)) 6 (by kernel_rfl) ?_ (fun hHeld => ?_)
              · first | exact HSK.out _ (Upd.refl _ _) | exact HSK.out _ HU7.out
              refine zT 0 ?_
              refine zT 1 ?_
              refine zT 2 ?_
              refine zT 3 ?_
              (try simp only [Act.put, List.setIfInBounds_toArray, List.set_cons_zero, List.set_cons_succ])
              refine zT 4 ?_
              refine oT 5 (fun K hK => ?_)
              go_simp
              (go_at_call 132; refine HRC.out.mono ?_; rintro r w7 ⟨rfl, hu⟩; have HU7 := As.mk hu; clear hu)
              refine hK.out _ _ (fun _ => by first | exact HSK.out _ (Upd.refl _ _) | exact HSK.out _ HU7.out) (fun hHeld => ?_)
              replace hHeld := hHeld (by decide)
              clear hK K
              (try simp only [Act.put, List.setIfInBounds_toArray, List.set_cons_zero, List.set_cons_succ])
              refine oT 6 (fun K hK => ?_)
              go_simp
              refine hK.out _ _ (fun h => absurd rfl h) (fun hHeld => ?_)
              clear hK K
              (try simp only [Act.put, List.setIfInBounds_toArray, List.set_cons_zero, List.set_cons_succ])
              refine wpAnyT_done (by kernel_rfl) ?_ _
              go_wp2
              have HN7 := As.mk ((HNW.out.kept HU7.out).kept ((Upd.refl (fun _ => False) w7).drew))
              have hR7 : exR.row w7.drew (fun q => wr.heap.size + 1 ≤ q) Ae e.l := Rp.row_pure HRW.out HU7.out.drew
              have hz7 : W.heap.size ≤ w7.heap.size := HU7.out.size
              have HRP := As.mk (show ruleR.rep w7.drew (fun q => wr.heap.size + 1 ≤ q) (x, e) [.string x.name, .string x.expr, .bool x.leaf, .int .i64 x.marks, .int .i64 x.least, .int .i64 x.most, .bool x.lines, .int .i64 e.k, .string e.name, .slice Ae e.l.length ce] from ⟨x.cs, [.int .i64 e.k, .string e.name, .slice Ae e.l.length ce], rfl, rfl, ex_rep HLE.out hR7⟩)
              have HLB := As.mk (fun (q : Nat) (h : Lv.ownBlock = some q) => Rp.own_block_lt HN.out.rules q h)
              have h6 : w6.heap.size ≤ wr.heap.size := HN.out.up.size
              have HSK2 : As (∀ v, Upd (fun q => Lv.ownBlock = some q) w7.drew v → v.cell? ⟨w2.heap.size + 1 + 1, 0, none⟩ = some Lv ∧ v.frozen? ⟨w2.heap.size + 1 + 1, 0, none⟩ = false ∧ (v.cell? ⟨w5.heap.size, 0, none⟩ = some (.int .i64 e.k) ∧ v.cell? ⟨w5.heap.size, 1, none⟩ = some (.string e.name) ∧ v.cell? ⟨w5.heap.size, 2, none⟩ = some (.slice Ae e.l.length ce)) ∧ v.cell? ⟨wr.heap.size, 0, none⟩ = some (.string x.name) ∧ v.cell? ⟨wr.heap.size, 1, none⟩ = some (.string x.expr) ∧ v.cell? ⟨wr.heap.size, 2, none⟩ = some (.bool x.leaf) ∧ v.cell? ⟨wr.heap.size, 3, none⟩ = some (.int .i64 x.marks) ∧ v.cell? ⟨wr.heap.size, 4, none⟩ = some (.int .i64 x.least) ∧ v.cell? ⟨wr.heap.size, 5, none⟩ = some (.int .i64 x.most) ∧ v.cell? ⟨wr.heap.size, 6, none⟩ = some (.bool x.lines)) := ⟨by
                intro v hu
                obtain ⟨hWs, hWe, hWx, hz5⟩ := HB.out
                obtain ⟨f0, f1, f2, f3, f4⟩ := HN7.out.cells
                have hcl := HN7.out.cbl
                have n1 : ¬ Lv.ownBlock = some (w2.heap.size + 1 + 1) := fun h => by have := (HLB.out _ h).1; omega
                have n2 : ¬ Lv.ownBlock = some wr.heap.size := fun h => by have := (HLB.out _ h).2; omega
                have n3 : ¬ Lv.ownBlock = some w5.heap.size := fun h => by have := (HLB.out _ h).2; omega
                have hd : w7.drew.heap.size = w7.heap.size := rfl
                have hdW : W.drew.heap.size = W.heap.size := rfl
                have c5 := (hu.block w5.heap.size (by omega) n3).trans ((HU7.out.drew.block w5.heap.size (by omega) (fun h => h)).trans (show W.drew.heap[w5.heap.size]? = _ from hWe))
                have cx := (hu.block wr.heap.size (by omega) n2).trans ((HU7.out.drew.block wr.heap.size (by omega) (fun h => h)).trans (show W.drew.heap[wr.heap.size]? = _ from hWx))
                refine ⟨(hu.cell f4 n1).trans f0, (hu.frozen f4 n1).trans f2, (cells3P c5).1, ?_, ?_, ?_, ?_, ?_, ?_, ?_⟩ <;> (unfold World.cell?; simp only [cx]; rfl)⟩
              have HSQ := As.mk (show w6.heap.size ≤ wr.heap.size ∧ w6.heap.size ≤ w7.heap.size from ⟨h6, by have := HB.out; omega⟩)
              have HLEN : As (((((wholeSpec whole :: l).zip es).take k).length + 1) * 120 ≤ 140737488355328) := ⟨by
                simp only [List.length_take, List.length_zip, List.length_cons]
                omega⟩
              clear hR7 hz7 h6
              refine wp_region_T (P := Tryz.prog) (fun v => v.cell? ⟨w2.heap.size + 1 + 1, 0, none⟩ = some Lv ∧ v.frozen? ⟨w2.heap.size + 1 + 1, 0, none⟩ = false ∧ (v.cell? ⟨w5.heap.size, 0, none⟩ = some (.int .i64 e.k) ∧ v.cell? ⟨w5.heap.size, 1, none⟩ = some (.string e.name) ∧ v.cell? ⟨w5.heap.size, 2, none⟩ = some (.slice Ae e.l.length ce)) ∧ v.cell? ⟨wr.heap.size, 0, none⟩ = some (.string x.name) ∧ v.cell? ⟨wr.heap.size, 1, none⟩ = some (.string x.expr) ∧ v.cell? ⟨wr.heap.size, 2, none⟩ = some (.bool x.leaf) ∧ v.cell? ⟨wr.heap.size, 3, none⟩ = some (.int .i64 x.marks) ∧ v.cell? ⟨wr.heap.size, 4, none⟩ = some (.int .i64 x.least) ∧ v.cell? ⟨wr.heap.size, 5, none⟩ = some (.int .i64 x.most) ∧ v.cell? ⟨wr.heap.size, 6, none⟩ = some (.bool x.lines)) 12 (by kernel_rfl) ?_ (fun hHeld => ?_)
              · first | exact HSK2.out _ (Upd.refl _ _) | exact HSK2.out _ (Upd.alloc1 _ _ _) | exact HSK2.out _ HU9.out
              refine zT 0 ?_
              (try simp only [Act.put, List.setIfInBounds_toArray, List.set_cons_zero, List.set_cons_succ])
              refine zT 1 ?_
              refine zT 2 ?_
              refine zT 3 ?_
              refine zT 4 ?_
              (try simp only [Act.put, List.setIfInBounds_toArray, List.set_cons_zero, List.set_cons_succ])
              refine zT 5 ?_
              refine zT 6 ?_
              refine zT 7 ?_
              refine oT 8 (fun K hK => ?_)
              go_simp
              refine hK.out _ _ (fun _ => by first | exact HSK2.out _ (Upd.refl _ _) | exact HSK2.out _ (Upd.alloc1 _ _ _) | exact HSK2.out _ HU9.out) (fun hHeld => ?_)
              replace hHeld := hHeld (by decide)
              clear hK K
              (try simp only [Act.put, List.setIfInBounds_toArray, List.set_cons_zero, List.set_cons_succ])
              refine oT 9 (fun K hK => ?_)
              refine Rp.step_append_one ruleR (W := w7.drew) (F := fun q => w6.heap.size ≤ q) (Fp := fun q => wr.heap.size + 1 ≤ q) (G := fun q => w6.heap.size ≤ q) HN7.out.rules (x, e) [.string x.name, .string x.expr, .bool x.leaf, .int .i64 x.marks, .int .i64 x.least, .int .i64 x.most, .bool x.lines, .int .i64 e.k, .string e.name, .slice Ae e.l.length ce] HRP.out (fun q hq _ => ⟨by have := HSQ.out.1; omega, fun h => by have := (HLB.out q h.symm).2; omega⟩) (fun _ h => h) (fun q hq => by have h8 : w7.heap.size ≤ q := hq; have := HSQ.out.2; omega) (by rfl) _ _ 98 (.agg #[.string ⟨#[]⟩, .string ⟨#[]⟩, .bool false, .int .i64 0, .int .i64 0, .int .i64 0, .bool false, .int .i64 0, .string ⟨#[]⟩, .slice none 0 0]) 120 (by rfl) Tryz.underlying98 rule_info rfl (by decide) (by decide) (by rfl) (n := w7.heap.size) rfl (by rfl) (HLEN.out) ?_; intro v9 w9 ho9 hu9; obtain ⟨A9, c9, rfl, _, _⟩ := Rp.own_slice ho9; have HO9 := As.mk ho9; have HU9 := As.mk hu9; obtain ⟨s1, s2, s3⟩ := HSK2.out w9 hu9; clear ho9 hu9
              refine hK.out _ _ (fun _ => by first | exact HSK2.out _ (Upd.refl _ _) | exact HSK2.out _ (Upd.alloc1 _ _ _) | exact HSK2.out _ HU9.out) (fun hHeld => ?_)
              replace hHeld := hHeld (by decide)
              clear hK K
              (try simp only [Act.put, List.setIfInBounds_toArray, List.set_cons_zero, List.set_cons_succ])
              refine oT 10 (fun K hK => ?_)
              go_simp
              refine hK.out _ _ (fun _ => by first | exact HSK2.out _ (Upd.refl _ _) | exact HSK2.out _ (Upd.alloc1 _ _ _) | exact HSK2.out _ HU9.out) (fun hHeld => ?_)
              replace hHeld := hHeld (by decide)
              clear hK K
              (try simp only [Act.put, List.setIfInBounds_toArray, List.set_cons_zero, List.set_cons_succ])
              refine zT 11 ?_
              refine oT 12 (fun K hK => ?_)
              go_simp
              refine hK.out _ _ (fun h => absurd rfl h) (fun hHeld => ?_)
              clear hK K
              (try simp only [Act.put, List.setIfInBounds_toArray, List.set_cons_zero, List.set_cons_succ])
              refine wpAnyT_done (by kernel_rfl) ?_ _
              have hN9 := NewL.next HN7.out HO9.out HU9.out
              rw [show ((((wholeSpec whole :: l).zip es).take k) ++ ([(x, e)] : List (Spec × Ex))).length = min k (l.length + 1) + 1 by simp [hes]] at hN9
              rw [← HX.out] at hN9
              have HN9 := As.mk hN9
              clear hN9
              try go_wp2
              go_roundg g1
              case measure => omega
              case rel => exact ⟨k + 1, by have := HK.out; omega, by go_num, ⟨_, HN9.out⟩⟩
            · obtain rfl : k = l.length + 1 := by omega
              obtain ⟨Lv, hN⟩ := HP.out
              have hzl : ((wholeSpec whole :: l).zip es).length = l.length + 1 := by simp [hes]
              rw [List.take_of_length_le (by omega)] at hN
              have HN := As.mk hN
              clear hN HP hlt hk hzl HL6
              go_wp2
              obtain ⟨AL, cL, hLv, hlL, hrL⟩ := Rp.own_slice HN.out.rules
              have hb := HN.out.blk
              rw [hLv] at hb
              exact bodyPost_ret (v := .tuple #[.pointer (some ⟨w2.heap.size + 1 + 1, 0, none⟩), .int .i64 0]) (by simp [results, Tryz.results66, go_sem]) rfl ⟨_, rfl, ⟨AL, cL, Ag, cg, hb, hlL, Rp.row_fp hrL (fun _ _ => trivial), Rp.row_fp (Rp.row_upd HGR.out HN.out.up (fun q _ h e => h e)) (fun _ _ => trivial)⟩, HCB.out, HN6.out.up.trans HN.out.up (fun q hq h => by have := HCB.out; omega)⟩
end Go.Proofs.YtfapglhdakhbeaaGreatDoor
