/- My own texts, packed: New, House, Stack, May2, Mach2. -/
import Derived.Test.YtofjodppljnlaaaGreatDoorP1
namespace Go.Proofs.YtofjodppljnlaaaGreatDoor
open Go.RowKit
set_option linter.unusedVariables false
set_option linter.unusedSimpArgs false
/-- append(v, x) of one element at a drawn region's step: x's cells lie in the newest block. -/
theorem Rp.step_append_one {α : Type} (d : Rp α) {P : Program} {ops : Array Oper} {o : Oper} {a : Act} {Q : Exit → Act → World → Prop} {K : Act → World → Prop} {E : Prop} {e : Nat} {W : World} {F Fp G : Nat → Prop} {v : Value} {xs : List α} (HO : d.own e W F v xs) (p : α) (cs : List Value) (hp : d.rep W Fp p cs)
    (hFp : ∀ k, Fp k → k < W.heap.size → G k ∧ some k ≠ v.ownBlock) (hFG : ∀ k, F k → G k) (hnew : ∀ k, W.heap.size ≤ k → G k)
    (hgd : o.guard = none) (s x : Operand) (t : TypeId) (z : Value) (bytes : Nat)
    (ho : o.op = .call { callee := .builtin .append, args := #[s, x], argTypes := #[t, t] })
    (ht : P.underlying t = some (.slice e)) (hinfo : (P.info? e).map (fun i => (i.zero, i.size, i.bytes)) = some (some z, d.sz, bytes)) (hz : z.cells.size = d.sz) (hs0 : 0 < d.sz) (hb0 : 0 < bytes)
    (hs : a.eval s = v) {n : Nat} (hnb : n = W.heap.size) (hx : a.eval x = .slice (some ⟨n, 0, none⟩) 1 1) (hl : (xs.length + 1) * bytes ≤ 140737488355328)
    (h : ∀ v1 w1, d.own e w1 G v1 (xs ++ [p]) → Upd (fun k => v.ownBlock = some k) W w1 → K (a.put o.dst v1) w1) :
    if Region.wanted o (yielded ops a.tmps) = true then Oper.wp P o a (W.alloc (.cells cs.toArray e)) K Q else E := by
  have hp1 : d.rep (W.alloc (.cells cs.toArray e)) (fun k => Fp k ∧ k < W.heap.size) p cs := d.move (fun k hk hl => ⟨⟨hk, hl⟩, by simp; omega, Below.heap_alloc W _ k hl⟩) hp
  refine Rp.step_append_row d (c := 1) (Rp.own_alloc HO (.cells cs.toArray e)) (Rp.row'_one hp1 (heap_alloc_new W _)) (fun k hk _ => (hFp k hk.1 hk.2).2) hgd s x t z bytes ho ht hinfo hz hs0 hb0 hs (by rw [hx, hnb]; rfl) (by simpa using hl) ?_
  intro v1 w1 ho1 hu1 hat
  refine h v1 w1 (Rp.own_fp ho1 (fun k hk => ?_)) ((Upd.alloc1 _ _ _).trans hu1 (fun _ _ h => h))
  rcases hk with hk | hk | hk
  · exact hFG k hk.1
  · exact (hFp k hk.1 hk.2).1
  · rcases hat with hat | ⟨b, hb, hle⟩
    · rw [hat] at hk
      exact hFG k (Rp.own_block_lt HO k hk).1
    · rw [hb] at hk
      injection hk with hk
      have h9 : W.heap.size + 1 ≤ b := by simpa using hle
      exact hnew k (by omega)
/-- A slice's literal of one element: its own row. -/
theorem Rp.own_lit {α : Type} (d : Rp α) {e : Nat} {W : World} {Fp G : Nat → Prop} (p : α) (cs : List Value) (hp : d.rep W Fp p cs) (hFp : ∀ k, Fp k → k < W.heap.size → G k) (hnew : G W.heap.size) :
    d.own e (W.alloc (.cells cs.toArray e)) G (.slice (some ⟨W.heap.size, 0, none⟩) 1 1) [p] := by
  have hl := d.len hp
  refine ⟨cs, ⟨by simp [hl], .inr ⟨W.heap.size, 1, cs.toArray, rfl, Nat.zero_le _, heap_alloc_new W _, Nat.le_refl _, by unfold maxLen; omega, by simp [hl], ?_⟩⟩, ?_, Reps.single (d.move (fun k hk hl => ?_) hp) hl⟩
  · simp only [List.length_singleton, Nat.one_mul]
    rw [← hl, List.take_length]
  · intro k hk
    injection hk with hk
    rw [← hk]
    exact hnew
  · refine ⟨⟨hFp k hk hl, ?_⟩, by simp; omega, Below.heap_alloc W _ k hl⟩
    intro h
    injection h with h
    have h9 : k = W.heap.size := h
    omega
abbrev ruleR : Rp (Spec × Ex) := Rp.pair specR exR
theorem grp_info : (Tryz.prog.info? 85).map (fun i => (i.zero, i.size, i.bytes)) = some (some (.agg #[.string ⟨#[]⟩, .slice none 0 0]), 2, 40) := by kernel_rfl
/-- The schema while its groups are told. -/
structure NewG (w0 : World) (cb : Nat) (Gv : Value) (gs : List Grp) (wr : World) : Prop where
  blk : wr.heap[cb]? = some (.cells #[.slice none 0 0, Gv] 97 (0, 0))
  grps : grpR.own 85 wr (fun k => w0.heap.size ≤ k ∧ k ≠ cb) Gv gs
  up : Pure w0 wr
  cbn : w0.heap.size ≤ cb
theorem NewG.cells {w0 wr : World} {cb : Nat} {Gv : Value} {gs : List Grp} (h : NewG w0 cb Gv gs wr) : wr.cell? ⟨cb, 0, none⟩ = some (.slice none 0 0) ∧ wr.cell? ⟨cb, 1, none⟩ = some Gv ∧ wr.frozen? ⟨cb, 0, none⟩ = false ∧ wr.frozen? ⟨cb, 1, none⟩ = false ∧ cb < wr.heap.size := by
  have hb := h.blk
  refine ⟨?_, ?_, ?_, ?_, (Array.getElem?_eq_some_iff.1 hb).1⟩
  · unfold World.cell?; simp only [hb]; rfl
  · unfold World.cell?; simp only [hb]; rfl
  · simp [World.frozen?, hb]
  · simp [World.frozen?, hb]
theorem NewG.kept {w0 wr w1 : World} {cb : Nat} {Gv : Value} {gs : List Grp} (h : NewG w0 cb Gv gs wr) (hu : Pure wr w1) : NewG w0 cb Gv gs w1 :=
  ⟨(hu.block cb h.cells.2.2.2.2 (fun h => h)).trans h.blk, Rp.own_upd h.grps hu (fun _ _ _ h => h), h.up.trans hu (fun _ _ h => h), h.cbn⟩
theorem NewG.next {w0 wr w2 : World} {cb : Nat} {Gv v1 : Value} {gs : List Grp} {x : Grp} (h : NewG w0 cb Gv gs wr) (ho : grpR.own 85 w2 (fun k => w0.heap.size ≤ k ∧ k ≠ cb) v1 (gs ++ [x])) (hu : Upd (fun k => Gv.ownBlock = some k) wr w2) :
    NewG w0 cb v1 (gs ++ [x]) (w2.setCell ⟨cb, 1, none⟩ v1) := by
  have hn : ¬ Gv.ownBlock = some cb := fun e => (Rp.own_block_lt h.grps cb e).1.2 rfl
  have hb2 := (hu.block cb h.cells.2.2.2.2 hn).trans h.blk
  refine ⟨by simp [World.setCell, Array.getElem?_modify, hb2], Rp.own_upd ho (Upd.setCell1 (S := fun q => q = cb) w2 rfl v1) (fun k _ hk => hk.2), (h.up.trans hu (fun q hq e => ?_)).setCell (fun hq => ?_) _, h.cbn⟩
  · have := (Rp.own_block_lt h.grps q e).1.1
    omega
  · have := h.cbn
    simp at hq
    omega
theorem new_fp {wr : World} {cb q : Nat} {v : Value} {o : Obj} {P : Prop} (hcb : cb < wr.heap.size) (hat : v.ownBlock = some wr.heap.size ∨ ∃ b, v.ownBlock = some b ∧ (wr.alloc o).heap.size ≤ b) (hq : (wr.heap.size ≤ q ∧ P) ∨ False ∨ v.ownBlock = some q) : q ≠ cb := by
  rcases hq with hq | hq | hq
  · have := hq.1
    omega
  · exact hq.elim
  · rcases hat with h | ⟨b, hb, hle⟩
    · rw [h] at hq
      injection hq with hq
      omega
    · rw [hb] at hq
      injection hq with hq
      have h9 : wr.heap.size + 1 ≤ b := by simpa using hle
      omega
/-- The schema while its rules are told. -/
structure NewL (w6 : World) (cb : Nat) (Lv Gv : Value) (rs : List (Spec × Ex)) (wr : World) : Prop where
  blk : wr.heap[cb]? = some (.cells #[Lv, Gv] 97 (0, 0))
  rules : ruleR.own 94 wr (fun k => w6.heap.size ≤ k) Lv rs
  up : Upd (fun k => k = cb) w6 wr
  cbl : cb < w6.heap.size
theorem NewL.start {w0 w6 : World} {cb : Nat} {Gv : Value} {gs : List Grp} (h : NewG w0 cb Gv gs w6) : NewL w6 cb (.slice none 0 0) Gv [] w6 :=
  ⟨h.blk, Rp.own_nil _ _ _ _, Upd.refl _ _, h.cells.2.2.2.2⟩
theorem NewL.cells {w6 wr : World} {cb : Nat} {Lv Gv : Value} {rs : List (Spec × Ex)} (h : NewL w6 cb Lv Gv rs wr) : wr.cell? ⟨cb, 0, none⟩ = some Lv ∧ wr.cell? ⟨cb, 1, none⟩ = some Gv ∧ wr.frozen? ⟨cb, 0, none⟩ = false ∧ wr.frozen? ⟨cb, 1, none⟩ = false ∧ cb < wr.heap.size := by
  have hb := h.blk
  refine ⟨?_, ?_, ?_, ?_, (Array.getElem?_eq_some_iff.1 hb).1⟩
  · unfold World.cell?; simp only [hb]; rfl
  · unfold World.cell?; simp only [hb]; rfl
  · simp [World.frozen?, hb]
  · simp [World.frozen?, hb]
theorem NewL.kept {w6 wr w1 : World} {cb : Nat} {Lv Gv : Value} {rs : List (Spec × Ex)} (h : NewL w6 cb Lv Gv rs wr) (hu : Pure wr w1) : NewL w6 cb Lv Gv rs w1 :=
  ⟨(hu.block cb h.cells.2.2.2.2 (fun h => h)).trans h.blk, Rp.own_upd h.rules hu (fun _ _ _ h => h), h.up.trans hu (fun _ _ h => h.elim), h.cbl⟩
theorem NewL.next {w6 wr w2 : World} {cb : Nat} {Lv Gv v1 : Value} {rs : List (Spec × Ex)} {x : Spec × Ex} (h : NewL w6 cb Lv Gv rs wr) (ho : ruleR.own 94 w2 (fun k => w6.heap.size ≤ k) v1 (rs ++ [x])) (hu : Upd (fun k => Lv.ownBlock = some k) wr w2) :
    NewL w6 cb v1 Gv (rs ++ [x]) (w2.setCell ⟨cb, 0, none⟩ v1) := by
  have hcl := h.cbl
  have hn : ¬ Lv.ownBlock = some cb := fun e => by
    have := (Rp.own_block_lt h.rules cb e).1
    omega
  have hb2 := (hu.block cb h.cells.2.2.2.2 hn).trans h.blk
  refine ⟨by simp [World.setCell, Array.getElem?_modify, hb2], Rp.own_upd ho (Upd.setCell1 (S := fun q => q = cb) w2 rfl v1) (fun k _ hk e => by omega), (h.up.trans hu (fun q hq e => ?_)).setCell (fun _ => rfl) _, h.cbl⟩
  have := (Rp.own_block_lt h.rules q e).1
  omega
end Go.Proofs.YtofjodppljnlaaaGreatDoor
namespace Go.Proofs.YtofjodppljnlaaaGreatDoor
open Go.RowKit
set_option linter.unusedVariables false
set_option linter.unusedSimpArgs false
def wholeSpec (s : ByteArray) : Spec := ⟨⟨#[]⟩, s, false, 0, 0, 0, false⟩
theorem spec_info : (Tryz.prog.info? 34).map (fun i => (i.zero, i.size, i.bytes)) = some (some (wholeSpec ⟨#[]⟩).val, 7, 72) := by kernel_rfl
def ownGroups (l : List Spec) : List Grp := l.mapIdx fun i s => ⟨s.name, [(i : Int) + 1]⟩
def newGroups (l : List Spec) (g : List Grp) : List Grp := ⟨textName, [0]⟩ :: (ownGroups l ++ g)
theorem ownGroups_take {l : List Spec} {k : Nat} {x : Spec} (hx : l[k]? = some x) : (ownGroups l).take (k + 1) = (ownGroups l).take k ++ [⟨x.name, [(k : Int) + 1]⟩] := by
  rw [List.take_add_one]
  simp [ownGroups, hx]
theorem ownGroups_length (l : List Spec) : (ownGroups l).length = l.length := by simp [ownGroups]
/-- A schema that New made. -/
def SchR (w : World) (cb : Nat) (rs : List (Spec × Ex)) (gs : List Grp) : Prop := ∃ AL cL AG cG, w.heap[cb]? = some (.cells #[.slice AL rs.length cL, .slice AG gs.length cG] 97 (0, 0)) ∧ rs.length ≤ cL ∧ ruleR.row w (fun _ => True) AL rs ∧ grpR.row w (fun _ => True) AG gs
theorem SchR.pure {w w1 : World} {cb : Nat} {rs : List (Spec × Ex)} {gs : List Grp} (h : SchR w cb rs gs) (hu : Pure w w1) : SchR w1 cb rs gs := by
  obtain ⟨AL, cL, AG, cG, h1, h2, h3, h4⟩ := h
  exact ⟨AL, cL, AG, cG, (hu.block cb (Array.getElem?_eq_some_iff.1 h1).1 (fun h => h)).trans h1, h2, Rp.row_pure h3 hu, Rp.row_pure h4 hu⟩
theorem newGroups_types {l : List Spec} {g : List Grp} (h : ∀ x ∈ g, x.name.size ≤ 1048576 ∧ x.types.length ≤ 1000) : ∀ x ∈ newGroups l g, x.types.length ≤ 1048576 := by
  intro x hx
  simp only [newGroups, ownGroups, List.mem_cons, List.mem_append, List.mem_mapIdx] at hx
  rcases hx with rfl | ⟨i, hi, rfl⟩ | hx
  · decide
  · show 1 ≤ 1048576
    decide
  · have := (h x hx).2
    omega
theorem ex_rep {w : World} {F : Nat → Prop} {e : Ex} {A : Option Addr} {c : Nat} (hl : e.l.length ≤ c) (h : exR.row w F A e.l) : exR.rep w F e [.int .i64 e.k, .string e.name, .slice A e.l.length c] := by
  cases e
  exact ExRep.of_parts hl h
theorem rule_info : (Tryz.prog.info? 94).map (fun i => (i.zero, i.size, i.bytes)) = some (some (.agg #[.string ⟨#[]⟩, .string ⟨#[]⟩, .bool false, .int .i64 0, .int .i64 0, .int .i64 0, .bool false, .int .i64 0, .string ⟨#[]⟩, .slice none 0 0]), 10, 120) := by kernel_rfl
set_option maxRecDepth 100000 in
set_option maxHeartbeats 4000000 in
theorem New_calls {w : World} {F G : Nat → Prop} {A Bg : Option Addr} {c d : Nat} {whole : ByteArray} {l : List Spec} {g : List Grp} {es : List Ex} (hr : specR.row w F A l) (hg : grpR.row w G Bg g) (hl : l.length < 16) (hgl : g.length ≤ 16)
    (hls : ∀ x ∈ l, x.name.size ≤ 1048576) (hgs : ∀ x ∈ g, x.name.size ≤ 1048576 ∧ x.types.length ≤ 1000) (hnm : namesB l g = true) (hft : l.any (fun x => !fitsB x) = false) (hes : es.length = l.length + 1)
    (hpe : ∀ (k : Nat) (s : Spec) (e : Ex), (wholeSpec whole :: l)[k]? = some s → es[k]? = some e → ParsesTo s.expr e ∧ regCheck e (newGroups l g) = 0 ∧ e.wt ≤ 1048576) :
    Calls Tryz.prog 61 #[.string whole, .slice A l.length c, .slice Bg g.length d] w fun r w' => ∃ cb, r = .returned (.tuple #[.pointer (some ⟨cb, 0, none⟩), .int .i64 0]) ∧ SchR w' cb ((wholeSpec whole :: l).zip es) (newGroups l g) ∧ w.heap.size ≤ cb ∧ Pure w w' := by
  have HR := As.mk hr
  have HG := As.mk hg
  have HLS := As.mk hls
  have HGS := As.mk hgs
  have HNA := As.mk (names_calls (c := c) (d := d) hr hg (by omega) (by omega) (fun x hx => by have := hls x hx; omega) (fun x hx => by have := (hgs x hx).1; omega))
  rw [hnm] at HNA
  have HFT := As.mk (fun W (hu : Pure w W) => ContainsFuncS_calls (c := c) (F := F) (fun x => !fitsB x) (Rp.row_pure hr hu) (by omega) (fun x _ w1 _ => new1_calls x w1))
  have HFN := As.mk hft
  have HPE := As.mk hpe
  have t1 : decide (((l.length : Int)) ≥ 16) = false := by simp; omega
  have t2 : decide ((16 : Int) ≤ (l.length : Int)) = false := by simp; omega
  have t3 : decide (16 ≤ l.length) = false := by simp; omega
  have t4 : decide (((g.length : Int)) > 16) = false := by simp; omega
  have t5 : decide ((16 : Int) < (g.length : Int)) = false := by simp; omega
  have t6 : decide (16 < g.length) = false := by simp; omega
  clear hr hg hls hgs hnm hft hpe
  go_enter Tryz.func61, Tryz.ntmps61
  go_wp2_with (first | (go_at_call 120; refine (HFT.out _ HUA.out).mono ?_; rintro e w2 ⟨rfl, hu⟩; rw [HFN.out]; have HUB := As.mk (HUA.out.trans hu (fun _ _ h => h)); clear hu; apply As.out) | (go_at_call 119; refine HNA.out.mono ?_; rintro e w1 ⟨rfl, hu⟩; have HUA := As.mk hu; clear hu))
  refine ⟨?_⟩
  have HN0 : As (NewG w (w2.heap.size + 1 + 1) (.slice (some ⟨w2.heap.size + 1, 0, none⟩) 1 1) (⟨textName, [0]⟩ :: (ownGroups l).take 0) (((w2.alloc (.cells #[.int .i64 0] 3)).alloc (.cells #[.string textName, .slice (some ⟨w2.heap.size, 0, none⟩) 1 1] 85)).alloc (.cells #[.slice none 0 0, .slice (some ⟨w2.heap.size + 1, 0, none⟩) 1 1] 97))) := ⟨by
    have hz := HUB.out.size
    have e1 : (w2.alloc (.cells #[.int .i64 0] 3)).heap.size = w2.heap.size + 1 := by simp
    have e2 : ((w2.alloc (.cells #[.int .i64 0] 3)).alloc (.cells #[.string textName, .slice (some ⟨w2.heap.size, 0, none⟩) 1 1] 85)).heap.size = w2.heap.size + 1 + 1 := by simp
    have hty := heap_alloc_new w2 (.cells #[.int .i64 0] 3)
    have hrow : intR.row (w2.alloc (.cells #[.int .i64 0] 3)) (fun k => k = w2.heap.size) (some ⟨w2.heap.size, 0, none⟩) [0] := Rp.row_of_block hty rfl (Reps.single (show intR.rep _ _ (0 : Int) [.int .i64 0] from rfl) rfl)
    have ho := Rp.own_lit (e := 85) grpR (G := fun k => w.heap.size ≤ k ∧ k ≠ w2.heap.size + 1 + 1) (⟨textName, [0]⟩ : Grp) [.string textName, .slice (some ⟨w2.heap.size, 0, none⟩) 1 1] ⟨_, _, rfl, Nat.le_refl _, hrow⟩ (fun k hk _ => by subst hk; omega) (by rw [e1]; omega)
    rw [e1] at ho
    have hcb := heap_alloc_new ((w2.alloc (.cells #[.int .i64 0] 3)).alloc (.cells #[.string textName, .slice (some ⟨w2.heap.size, 0, none⟩) 1 1] 85)) (.cells #[.slice none 0 0, .slice (some ⟨w2.heap.size + 1, 0, none⟩) 1 1] 97)
    rw [e2] at hcb
    exact ⟨hcb, Rp.own_alloc ho _, ((HUB.out.alloc _).alloc _).alloc _, by omega⟩⟩
  have HCB := As.mk (show w.heap.size ≤ w2.heap.size + 1 + 1 by have := HUB.out.size; omega)
  go_wp2
  go_loopg [43] l.length (fun gg i wr => ∃ k : Nat, k + gg = l.length ∧ i = .int .i64 k ∧ As (∃ Gv, NewG w (w2.heap.size + 1 + 1) Gv (⟨textName, [0]⟩ :: (ownGroups l).take k) wr))
  case atStart => exact ⟨0, by omega, rfl, ⟨_, HN0.out⟩⟩
  case round =>
    obtain ⟨k, hk, rfl, HP⟩ := hrel
    by_cases hlt : k < l.length
    · obtain ⟨x, hx⟩ : ∃ x, l[k]? = some x := ⟨_, List.getElem?_eq_getElem hlt⟩
      obtain ⟨g1, rfl⟩ : ∃ m, gk = m + 1 := ⟨gk - 1, by omega⟩
      obtain ⟨Gv, hN⟩ := HP.out
      obtain ⟨bx, ox, rfl, hFb, hbb, d0, d1, d2, d3, d4, d5, d6⟩ := spec_at (Rp.row_pure HR.out hN.up) hx
      have HK := As.mk hk
      have HX := As.mk (ownGroups_take hx)
      have hwrap : IntKind.i64.wrap ((k : Int) + 1) = (k : Int) + 1 := IntWalk.i64_in _ (by omega)
      obtain ⟨W, hW⟩ : ∃ W, W = wr.alloc (.cells #[.string x.name, .string x.expr, .bool x.leaf, .int .i64 x.marks, .int .i64 x.least, .int .i64 x.most, .bool x.lines] 34) := ⟨_, rfl⟩
      have HN := As.mk ((hN.kept (hW ▸ Upd.alloc1 _ _ _ : Pure wr W)).kept ((Upd.refl (fun _ => False) W).drew))
      have hWs : W.heap.size = wr.heap.size + 1 := by subst hW; simp
      have hWb : W.heap[wr.heap.size]? = some (.cells #[.string x.name, .string x.expr, .bool x.leaf, .int .i64 x.marks, .int .i64 x.least, .int .i64 x.most, .bool x.lines] 34) := hW ▸ heap_alloc_new wr _
      have HWS := As.mk hWs
      have HSK : As (∀ v, Upd (fun q => Gv.ownBlock = some q) W.drew v → v.cell? ⟨w2.heap.size + 1 + 1, 1, none⟩ = some Gv ∧ v.frozen? ⟨w2.heap.size + 1 + 1, 1, none⟩ = false ∧ v.cell? ⟨wr.heap.size, 0, none⟩ = some (.string x.name)) := ⟨by
        intro v hu
        obtain ⟨f0, f1, f2, f3, f4⟩ := HN.out.cells
        have n1 : ¬ Gv.ownBlock = some (w2.heap.size + 1 + 1) := fun e => (Rp.own_block_lt HN.out.grps _ e).1.2 rfl
        have n2 : ¬ Gv.ownBlock = some wr.heap.size := fun e => by have := (Rp.own_block_lt hN.grps _ e).2; omega
        have hb : W.drew.heap.size = W.heap.size := rfl
        refine ⟨(hu.cell f4 n1).trans f1, (hu.frozen f4 n1).trans f3, (hu.cell (by omega) n2).trans ?_⟩
        show W.cell? _ = _
        unfold World.cell?; simp only [hWb]; rfl⟩
      have HTY : As (grpR.rep (W.drew.alloc (.cells #[.int .i64 ((k : Int) + 1)] 3)) (fun q => q = W.heap.size) (⟨x.name, [(k : Int) + 1]⟩ : Grp) [.string x.name, .slice (some ⟨W.heap.size, 0, none⟩) 1 1]) := ⟨⟨_, _, rfl, Nat.le_refl _, Rp.row_of_block (heap_alloc_new W.drew (.cells #[.int .i64 ((k : Int) + 1)] 3)) rfl (Reps.single (show intR.rep _ _ ((k : Int) + 1) [.int .i64 ((k : Int) + 1)] from rfl) rfl)⟩⟩
      have HSZ := As.mk (show w.heap.size ≤ W.heap.size ∧ w2.heap.size + 1 + 1 < W.heap.size from ⟨HN.out.up.size, HN.out.cells.2.2.2.2⟩)
      have HFP : As (∀ q, q = W.heap.size → q < (W.drew.alloc (.cells #[.int .i64 ((k : Int) + 1)] 3)).heap.size → (w.heap.size ≤ q ∧ q ≠ w2.heap.size + 1 + 1) ∧ some q ≠ Gv.ownBlock) := ⟨fun q hq _ => by
        have := HSZ.out
        refine ⟨by omega, fun e => ?_⟩
        have h9 : q < W.heap.size := (Rp.own_block_lt HN.out.grps q e.symm).2
        omega⟩
      have HNEW : As (∀ q, (W.drew.alloc (.cells #[.int .i64 ((k : Int) + 1)] 3)).heap.size ≤ q → w.heap.size ≤ q ∧ q ≠ w2.heap.size + 1 + 1) := ⟨fun q hq => by
        have := HSZ.out
        have h8 : (W.drew.alloc (.cells #[.int .i64 ((k : Int) + 1)] 3)).heap.size = W.drew.heap.size + 1 := by simp
        have h9 : W.drew.heap.size = W.heap.size := rfl
        omega⟩
      have HNB : As (W.heap.size + 1 = (W.drew.alloc (.cells #[.int .i64 ((k : Int) + 1)] 3)).heap.size) := ⟨by
        have h8 : (W.drew.alloc (.cells #[.int .i64 ((k : Int) + 1)] 3)).heap.size = W.drew.heap.size + 1 := by simp
        have h9 : W.drew.heap.size = W.heap.size := rfl
        omega⟩
      have HLEN : As ((((⟨textName, [0]⟩ : Grp) :: (ownGroups l).take k).length + 1) * 40 ≤ 140737488355328) := ⟨by
        simp only [List.length_cons, List.length_take, ownGroups_length]
        omega⟩
      have hdec : decide ((k : Int) < (l.length : Int)) = true := by simp; omega
      clear hk hx hWs hWb hN
      go_wp2
      rw [← hW]
      clear hW
      refine wp_region_T (P := Tryz.prog) (fun v => v.cell? ⟨w2.heap.size + 1 + 1, 1, none⟩ = some Gv ∧ v.frozen? ⟨w2.heap.size + 1 + 1, 1, none⟩ = false ∧ v.cell? ⟨wr.heap.size, 0, none⟩ = some (.string x.name)) 15 (by kernel_rfl) ?_ (fun hHeld => ?_)
      · first | exact HSK.out _ (Upd.refl _ _) | exact HSK.out _ (Upd.alloc1 _ _ _) | exact HSK.out _ ((Upd.alloc1 _ _ _).alloc _) | exact HSK.out _ HU4.out
      refine zT 0 ?_
      refine zT 1 ?_
      refine zT 2 ?_
      refine zT 3 ?_
      (try simp only [Act.put, sA, sB, sC])
      refine zT 4 ?_
      refine zT 5 ?_
      refine zT 6 ?_
      refine zT 7 ?_
      (try simp only [Act.put, sA, sB, sC])
      refine zT 8 ?_
      refine oT 9 (fun K hK => ?_)
      go_simp
      refine hK.out _ _ (fun _ => by first | exact HSK.out _ (Upd.refl _ _) | exact HSK.out _ (Upd.alloc1 _ _ _) | exact HSK.out _ ((Upd.alloc1 _ _ _).alloc _) | exact HSK.out _ HU4.out) (fun hHeld => ?_)
      replace hHeld := hHeld (by decide)
      clear hK K
      (try simp only [Act.put, sA, sB, sC])
      refine zT 10 ?_
      refine oT 11 (fun K hK => ?_)
      go_simp
      refine hK.out _ _ (fun _ => by first | exact HSK.out _ (Upd.refl _ _) | exact HSK.out _ (Upd.alloc1 _ _ _) | exact HSK.out _ ((Upd.alloc1 _ _ _).alloc _) | exact HSK.out _ HU4.out) (fun hHeld => ?_)
      replace hHeld := hHeld (by decide)
      clear hK K
      (try simp only [Act.put, sA, sB, sC])
      refine oT 12 (fun K hK => ?_)
      refine Rp.step_append_one grpR (W := W.drew.alloc (.cells #[.int .i64 ((k : Int) + 1)] 3)) (F := fun q => w.heap.size ≤ q ∧ q ≠ w2.heap.size + 1 + 1) (Fp := fun q => q = W.heap.size) (G := fun q => w.heap.size ≤ q ∧ q ≠ w2.heap.size + 1 + 1) (Rp.own_alloc HN.out.grps _) (⟨x.name, [(k : Int) + 1]⟩ : Grp) [.string x.name, .slice (some ⟨W.heap.size, 0, none⟩) 1 1] (HTY.out) (HFP.out) (fun _ h => h) (HNEW.out) (by rfl) _ _ 86 (.agg #[.string ⟨#[]⟩, .slice none 0 0]) 40 (by rfl) Tryz.underlying86 grp_info rfl (by decide) (by decide) (by rfl) (n := W.heap.size + 1) HNB.out (by rfl) (HLEN.out) ?_; intro v4 w4 ho4 hu4; obtain ⟨A4, c4, rfl, _, _⟩ := Rp.own_slice ho4; have HO4 := As.mk ho4; have HU4 := As.mk (show Upd (fun q => Gv.ownBlock = some q) W.drew w4 from (Upd.alloc1 _ _ _).trans hu4 (fun _ _ h => h)); obtain ⟨s1, s2, s3⟩ := HSK.out w4 HU4.out; clear ho4 hu4
      refine hK.out _ _ (fun _ => by first | exact HSK.out _ (Upd.refl _ _) | exact HSK.out _ (Upd.alloc1 _ _ _) | exact HSK.out _ ((Upd.alloc1 _ _ _).alloc _) | exact HSK.out _ HU4.out) (fun hHeld => ?_)
      replace hHeld := hHeld (by decide)
      clear hK K
      (try simp only [Act.put, sA, sB, sC])
      refine oT 13 (fun K hK => ?_)
      go_simp
      refine hK.out _ _ (fun _ => by first | exact HSK.out _ (Upd.refl _ _) | exact HSK.out _ (Upd.alloc1 _ _ _) | exact HSK.out _ ((Upd.alloc1 _ _ _).alloc _) | exact HSK.out _ HU4.out) (fun hHeld => ?_)
      replace hHeld := hHeld (by decide)
      clear hK K
      (try simp only [Act.put, sA, sB, sC])
      refine zT 14 ?_
      refine oT 15 (fun K hK => ?_)
      go_simp
      refine hK.out _ _ (fun h => absurd rfl h) (fun hHeld => ?_)
      clear hK K
      (try simp only [Act.put, sA, sB, sC])
      refine wpAnyT_done (by kernel_rfl) ?_ _
      have hN5 := NewG.next HN.out HO4.out HU4.out
      rw [show (((⟨textName, [0]⟩ : Grp) :: (ownGroups l).take k) ++ ([⟨x.name, [(k : Int) + 1]⟩] : List Grp)).length = min k (ownGroups l).length + 1 + 1 by simp] at hN5
      rw [show ((⟨textName, [0]⟩ : Grp) :: (ownGroups l).take k) ++ [⟨x.name, [(k : Int) + 1]⟩] = ⟨textName, [0]⟩ :: (ownGroups l).take (k + 1) by rw [HX.out]; rfl] at hN5
      have HN5 := As.mk hN5
      clear hN5
      try go_wp2
      go_roundg g1
      case measure => omega
      case rel => exact ⟨k + 1, by have := HK.out; omega, by go_num, ⟨_, HN5.out⟩⟩
    · obtain rfl : k = l.length := by omega
      obtain ⟨Gv, hN⟩ := HP.out
      rw [show (ownGroups l).take l.length = ownGroups l ++ g.take 0 by rw [List.take_of_length_le (by rw [ownGroups_length]; omega)]; simp] at hN
      have HN := As.mk hN
      clear hN HP
      go_wp2
      go_loopg [66] g.length (fun gg i wr => ∃ k : Nat, k + gg = g.length ∧ i = .int .i64 k ∧ As (∃ Gv, NewG w (w2.heap.size + 1 + 1) Gv (⟨textName, [0]⟩ :: (ownGroups l ++ g.take k)) wr))
      case atStart => exact ⟨0, by omega, rfl, ⟨_, HN.out⟩⟩
      case round =>
        obtain ⟨k, hk, rfl, HP⟩ := hrel
        by_cases hlt : k < g.length
        · obtain ⟨x, hx⟩ : ∃ x, g[k]? = some x := ⟨_, List.getElem?_eq_getElem hlt⟩
          obtain ⟨g1, rfl⟩ : ∃ m, gk = m + 1 := ⟨gk - 1, by omega⟩
          clear HN
          obtain ⟨Gv, hN⟩ := HP.out
          obtain ⟨bx, ox, A1x, c1x, rfl, hFb, hbb, d0, d1, hlx, hrx⟩ := grp_at (Rp.row_pure HG.out hN.up) hx
          have HK := As.mk hk
          have hlen := (HGS.out x (List.mem_of_getElem? hx)).2
          have HX := As.mk (show g.take (k + 1) = g.take k ++ [x] by rw [List.take_add_one, hx]; rfl)
          obtain ⟨W, hW⟩ : ∃ W, W = wr.alloc (.cells #[.string x.name, .slice A1x x.types.length c1x] 85) := ⟨_, rfl⟩
          have HN := As.mk ((hN.kept (hW ▸ Upd.alloc1 _ _ _ : Pure wr W)).kept ((Upd.refl (fun _ => False) W).drew))
          have HRX := As.mk (Rp.row_pure (Rp.row_pure hrx (hW ▸ Upd.alloc1 _ _ _ : Pure wr W)) ((Upd.refl (fun _ => False) W).drew))
          have hWs : W.heap.size = wr.heap.size + 1 := by subst hW; simp
          have hWb : W.heap[wr.heap.size]? = some (.cells #[.string x.name, .slice A1x x.types.length c1x] 85) := hW ▸ heap_alloc_new wr _
          have HSK : As (∀ v, Upd (fun q => Gv.ownBlock = some q) W.drew v → v.cell? ⟨w2.heap.size + 1 + 1, 1, none⟩ = some Gv ∧ v.frozen? ⟨w2.heap.size + 1 + 1, 1, none⟩ = false ∧ v.cell? ⟨wr.heap.size, 0, none⟩ = some (.string x.name) ∧ v.cell? ⟨wr.heap.size, 1, none⟩ = some (.slice A1x x.types.length c1x)) := ⟨by
            intro v hu
            obtain ⟨f0, f1, f2, f3, f4⟩ := HN.out.cells
            have n1 : ¬ Gv.ownBlock = some (w2.heap.size + 1 + 1) := fun e => (Rp.own_block_lt HN.out.grps _ e).1.2 rfl
            have n2 : ¬ Gv.ownBlock = some wr.heap.size := fun e => by have := (Rp.own_block_lt hN.grps _ e).2; omega
            have hb : W.drew.heap.size = W.heap.size := rfl
            refine ⟨(hu.cell f4 n1).trans f1, (hu.frozen f4 n1).trans f3, (hu.cell (by omega) n2).trans ?_, (hu.cell (by omega) n2).trans ?_⟩
            · show W.cell? _ = _
              unfold World.cell?; simp only [hWb]; rfl
            · show W.cell? _ = _
              unfold World.cell?; simp only [hWb]; rfl⟩
          have HSZ := As.mk (show w.heap.size ≤ W.heap.size ∧ w2.heap.size + 1 + 1 < W.heap.size from ⟨HN.out.up.size, HN.out.cells.2.2.2.2⟩)
          have HLEN : As ((((⟨textName, [0]⟩ : Grp) :: (ownGroups l ++ g.take k)).length + 1) * 40 ≤ 140737488355328) := ⟨by
            simp only [List.length_cons, List.length_append, List.length_take, ownGroups_length]
            omega⟩
          have hdec : decide ((k : Int) < (g.length : Int)) = true := by simp; omega
          clear hk hx hWs hWb hN hrx
          go_wp2
          rw [← hW]
          clear hW
          refine wp_region_T (P := Tryz.prog) (fun v => v.cell? ⟨w2.heap.size + 1 + 1, 1, none⟩ = some Gv ∧ v.frozen? ⟨w2.heap.size + 1 + 1, 1, none⟩ = false ∧ v.cell? ⟨wr.heap.size, 0, none⟩ = some (.string x.name) ∧ v.cell? ⟨wr.heap.size, 1, none⟩ = some (.slice A1x x.types.length c1x)) 15 (by kernel_rfl) ?_ (fun hHeld => ?_)
          · first | exact HSK.out _ (Upd.refl _ _) | exact HSK.out _ HU5.out | exact HSK.out _ (HU5.out.alloc _) | exact HSK.out _ HU4.out
          refine zT 0 ?_
          refine zT 1 ?_
          refine zT 2 ?_
          refine zT 3 ?_
          (try simp only [Act.put, sA, sB, sC])
          refine zT 4 ?_
          refine zT 5 ?_
          refine zT 6 ?_
          refine zT 7 ?_
          (try simp only [Act.put, sA, sB, sC])
          refine zT 8 ?_
          refine oT 9 (fun K hK => ?_)
          go_simp
          (go_at_call 123; refine (Clone_calls HRX.out (by omega)).mono ?_; rintro e w5 ⟨v5, rfl, ho5, hu5⟩; obtain ⟨A5, c5, rfl, hl5, hr5⟩ := Rp.own_slice ho5; have HU5 := As.mk (show Upd (fun q => Gv.ownBlock = some q) W.drew w5 from hu5.mono (fun _ _ h => h.elim)); have HGR := As.mk (Rp.own_upd HN.out.grps hu5 (fun _ _ _ h => h)); have HTY := As.mk (show grpR.rep w5 (fun q => W.heap.size ≤ q) (⟨x.name, x.types⟩ : Grp) [.string x.name, .slice A5 x.types.length c5] from ⟨_, _, rfl, hl5, hr5⟩); have HS5 := As.mk (show W.heap.size ≤ w5.heap.size from hu5.size); clear ho5 hu5 hr5)
          refine hK.out _ _ (fun _ => by first | exact HSK.out _ (Upd.refl _ _) | exact HSK.out _ HU5.out | exact HSK.out _ (HU5.out.alloc _) | exact HSK.out _ HU4.out) (fun hHeld => ?_)
          replace hHeld := hHeld (by decide)
          clear hK K
          (try simp only [Act.put, sA, sB, sC])
          refine zT 10 ?_
          refine oT 11 (fun K hK => ?_)
          go_simp
          refine hK.out _ _ (fun _ => by first | exact HSK.out _ (Upd.refl _ _) | exact HSK.out _ HU5.out | exact HSK.out _ (HU5.out.alloc _) | exact HSK.out _ HU4.out) (fun hHeld => ?_)
          replace hHeld := hHeld (by decide)
          clear hK K
          (try simp only [Act.put, sA, sB, sC])
          refine oT 12 (fun K hK => ?_)
          refine Rp.step_append_one grpR (W := w5) (F := fun q => w.heap.size ≤ q ∧ q ≠ w2.heap.size + 1 + 1) (Fp := fun q => W.heap.size ≤ q) (G := fun q => w.heap.size ≤ q ∧ q ≠ w2.heap.size + 1 + 1) HGR.out (⟨x.name, x.types⟩ : Grp) [.string x.name, .slice A5 x.types.length c5] HTY.out (fun q hq _ => ⟨⟨by have := HSZ.out; omega, by have := HSZ.out; omega⟩, fun e => by have h9 : q < W.heap.size := (Rp.own_block_lt HN.out.grps q e.symm).2; omega⟩) (fun _ h => h) (fun q hq => ⟨by have := HSZ.out; have := HS5.out; omega, by have := HSZ.out; have := HS5.out; omega⟩) (by rfl) _ _ 86 (.agg #[.string ⟨#[]⟩, .slice none 0 0]) 40 (by rfl) Tryz.underlying86 grp_info rfl (by decide) (by decide) (by rfl) (n := w5.heap.size) rfl (by rfl) (HLEN.out) ?_; intro v4 w4 ho4 hu4; obtain ⟨A4, c4, rfl, _, _⟩ := Rp.own_slice ho4; have HO4 := As.mk ho4; have HU4 := As.mk (show Upd (fun q => Gv.ownBlock = some q) W.drew w4 from HU5.out.trans hu4 (fun _ _ h => h)); obtain ⟨s1, s2, s3, s4⟩ := HSK.out w4 HU4.out; clear ho4 hu4
          refine hK.out _ _ (fun _ => by first | exact HSK.out _ (Upd.refl _ _) | exact HSK.out _ HU5.out | exact HSK.out _ (HU5.out.alloc _) | exact HSK.out _ HU4.out) (fun hHeld => ?_)
          replace hHeld := hHeld (by decide)
          clear hK K
          (try simp only [Act.put, sA, sB, sC])
          refine oT 13 (fun K hK => ?_)
          go_simp
          refine hK.out _ _ (fun _ => by first | exact HSK.out _ (Upd.refl _ _) | exact HSK.out _ HU5.out | exact HSK.out _ (HU5.out.alloc _) | exact HSK.out _ HU4.out) (fun hHeld => ?_)
          replace hHeld := hHeld (by decide)
          clear hK K
          (try simp only [Act.put, sA, sB, sC])
          refine zT 14 ?_
          refine oT 15 (fun K hK => ?_)
          go_simp
          refine hK.out _ _ (fun h => absurd rfl h) (fun hHeld => ?_)
          clear hK K
          (try simp only [Act.put, sA, sB, sC])
          refine wpAnyT_done (by kernel_rfl) ?_ _
          have hN5 := NewG.next HN.out HO4.out HU4.out
          rw [show (((⟨textName, [0]⟩ : Grp) :: (ownGroups l ++ g.take k)) ++ ([⟨x.name, x.types⟩] : List Grp)).length = (ownGroups l).length + min k g.length + 1 + 1 by (simp only [List.length_cons, List.length_append, List.length_take, List.length_nil])] at hN5
          rw [show ((⟨textName, [0]⟩ : Grp) :: (ownGroups l ++ g.take k)) ++ [⟨x.name, x.types⟩] = ⟨textName, [0]⟩ :: (ownGroups l ++ g.take (k + 1)) by rw [HX.out, List.cons_append, List.append_assoc]] at hN5
          have HN5 := As.mk hN5
          clear hN5
          try go_wp2
          go_roundg g1
          case measure => omega
          case rel => exact ⟨k + 1, by have := HK.out; omega, by go_num, ⟨_, HN5.out⟩⟩
        · obtain rfl : k = g.length := by omega
          clear HN
          obtain ⟨Gv, hN⟩ := HP.out
          rw [show (⟨textName, [0]⟩ : Grp) :: (ownGroups l ++ g.take g.length) = newGroups l g by rw [List.take_length]; rfl] at hN
          have HOS : As (specR.own 34 (wr.alloc (.cells #[.string ⟨#[]⟩, .string whole, .bool false, .int .i64 0, .int .i64 0, .int .i64 0, .bool false] 34)) (fun q => wr.heap.size ≤ q) (.slice (some ⟨wr.heap.size, 0, none⟩) 1 1) [wholeSpec whole]) := ⟨Rp.own_lit (Fp := fun _ => False) specR (wholeSpec whole) (wholeSpec whole).cs rfl (fun _ h _ => h.elim) (Nat.le_refl _)⟩
          have HRL := As.mk (Rp.row_pure HR.out (hN.up.alloc (.cells #[.string ⟨#[]⟩, .string whole, .bool false, .int .i64 0, .int .i64 0, .int .i64 0, .bool false] 34)))
          have HN := As.mk hN
          clear hN HP hlt hk
          go_wp2_with (at_builtin; refine Rp.append_row specR (c := c) HOS.out (Rp.row'_of HRL.out (fun _ _ h => h)) (Fz := fun _ => False) (fun _ h => h.elim) rfl _ _ 82 (wholeSpec ⟨#[]⟩).val 72 rfl Tryz.underlying82 spec_info rfl (by decide) (by decide) rfl rfl (by simp; omega) ?_; intro v6 w6 ho6 hu6 hat6; obtain ⟨A6, c6, rfl, _, hr6⟩ := Rp.own_slice ho6; have HU6 := As.mk (show Pure wr w6 from (Upd.alloc1 _ _ _).trans hu6 (fun q hq e => by injection e with e; (have e9 : q = wr.heap.size := e.symm); omega)); have HR6 := As.mk (show specR.row w6 (fun q => q ≠ w2.heap.size + 1 + 1) A6 (wholeSpec whole :: l) from Rp.row_fp hr6 (fun q hq => new_fp (HN.out.cells.2.2.2.2) hat6 hq)); clear ho6 hu6 hat6 hr6; apply As.out)
          refine ⟨?_⟩
          have HN6 := As.mk (HN.out.kept HU6.out)
          obtain ⟨Ag, cg, hGv, _, hgr⟩ := Rp.own_slice HN6.out.grps
          have HGR := As.mk (Rp.row_fp (G := fun q => q ≠ w2.heap.size + 1 + 1) hgr (fun _ h => h.2))
          have HL6 := As.mk (NewL.start HN6.out)
          clear HN hgr HU6
          subst hGv
          go_wp2
          go_loopg [92] (l.length + 1) (fun gg i wr => ∃ k : Nat, k + gg = l.length + 1 ∧ i = .int .i64 k ∧ As (∃ Lv, NewL w6 (w2.heap.size + 1 + 1) Lv (.slice Ag (newGroups l g).length cg) (((wholeSpec whole :: l).zip es).take k) wr))
          case atStart => exact ⟨0, by omega, rfl, ⟨_, HL6.out⟩⟩
          case round =>
            obtain ⟨k, hk, rfl, HP⟩ := hrel
            by_cases hlt : k < l.length + 1
            · obtain ⟨x, hx⟩ : ∃ x, (wholeSpec whole :: l)[k]? = some x := ⟨_, List.getElem?_eq_getElem (by simpa using hlt)⟩
              obtain ⟨e, he⟩ : ∃ e, es[k]? = some e := ⟨_, List.getElem?_eq_getElem (by omega)⟩
              obtain ⟨g1, rfl⟩ : ∃ m, gk = m + 1 := ⟨gk - 1, by omega⟩
              clear HL6
              obtain ⟨Lv, hN⟩ := HP.out
              obtain ⟨bx, ox, rfl, hFb, hbb, d0, d1, d2, d3, d4, d5, d6⟩ := spec_at (Rp.row_upd HR6.out hN.up (fun q _ h e => h e)) hx
              obtain ⟨hpar, hchk, hwt⟩ := HPE.out k x e hx he
              have HPA := As.mk hpar
              have HCHK := As.mk hchk
              have HK := As.mk hk
              have HN := As.mk hN
              have HX := As.mk (show ((wholeSpec whole :: l).zip es).take (k + 1) = ((wholeSpec whole :: l).zip es).take k ++ [(x, e)] by
                have hz : ((wholeSpec whole :: l).zip es)[k]? = some (x, e) := List.getElem?_zip_eq_some.2 ⟨hx, he⟩
                rw [List.take_add_one, hz]
                rfl)
              have hdec : decide ((k : Int) < (l.length : Int) + 1) = true := by simp; omega
              clear hk hx he hN hpar hchk
              go_wp2_with (go_at_call 124; refine (HPA.out _).mono ?_; rintro r w5 ⟨Ae, ce, rfl, hle, hrow, hu⟩; have HLE := As.mk hle; have HROW := As.mk hrow; have HU5 := As.mk ((Upd.alloc1 (fun _ => False) wr (.cells #[.string x.name, .string x.expr, .bool x.leaf, .int .i64 x.marks, .int .i64 x.least, .int .i64 x.most, .bool x.lines] 34)).trans hu (fun _ _ h => h)); have HSB := As.mk (And.intro ((hu.block wr.heap.size (by simp) (fun h => h)).trans (heap_alloc_new wr (.cells #[.string x.name, .string x.expr, .bool x.leaf, .int .i64 x.marks, .int .i64 x.least, .int .i64 x.most, .bool x.lines] 34))) (show wr.heap.size + 1 ≤ w5.heap.size by have := hu.size; simpa using this)); clear hle hrow hu; apply As.out)
              refine ⟨?_⟩
              go_wp2
              obtain ⟨W, hW⟩ : ∃ W, W = w5.alloc (.cells #[.int .i64 e.k, .string e.name, .slice Ae e.l.length ce] 92) := ⟨_, rfl⟩
              have hp5 : Pure w5 W := hW ▸ Upd.alloc1 _ _ _
              have hpW : Pure wr W.drew := (HU5.out.trans hp5 (fun _ _ h => h)).drew
              have HPW := As.mk hpW
              have hNW := HN.out.kept hpW
              have HNW := As.mk hNW
              have hRW : exR.row W.drew (fun q => wr.heap.size + 1 ≤ q) Ae e.l := Rp.row_fp (Rp.row_pure HROW.out hp5.drew) (fun q hq => by simpa using hq)
              have HRW := As.mk hRW
              have HGW := As.mk (Rp.row_upd HGR.out hNW.up (fun q _ h e => h e))
              have HRC := As.mk (regCheck_calls (c := ce) (d := cg) (e := e) hRW HGW.out (by omega) (by simp only [newGroups, List.length_cons, List.length_append, ownGroups_length]; omega) (newGroups_types HGS.out))
              rw [HCHK.out] at HRC
              have hsp : (wr.alloc (.cells #[.string x.name, .string x.expr, .bool x.leaf, .int .i64 x.marks, .int .i64 x.least, .int .i64 x.most, .bool x.lines] 34)).heap.size = wr.heap.size + 1 := by simp
              have hz5 : wr.heap.size + 1 ≤ w5.heap.size := by have := HSB.out.2; omega
              have hWs : W.heap.size = w5.heap.size + 1 := by subst hW; simp
              have hWe : W.heap[w5.heap.size]? = some (.cells #[.int .i64 e.k, .string e.name, .slice Ae e.l.length ce] 92 (0, 0)) := hW ▸ heap_alloc_new w5 _
              have hWx : W.heap[wr.heap.size]? = some (.cells #[.string x.name, .string x.expr, .bool x.leaf, .int .i64 x.marks, .int .i64 x.least, .int .i64 x.most, .bool x.lines] 34 (0, 0)) := (hp5.block wr.heap.size (by omega) (fun h => h)).trans HSB.out.1
              have HB := As.mk (And.intro hWs (And.intro hWe (And.intro hWx hz5)))
              have HSK : As (∀ v, Pure W.drew v → v.cell? ⟨w2.heap.size + 1 + 1, 1, none⟩ = some (.slice Ag (newGroups l g).length cg) ∧ v.cell? ⟨w5.heap.size, 0, none⟩ = some (.int .i64 e.k) ∧ v.cell? ⟨w5.heap.size, 1, none⟩ = some (.string e.name) ∧ v.cell? ⟨w5.heap.size, 2, none⟩ = some (.slice Ae e.l.length ce)) := ⟨by
                intro v hu
                obtain ⟨f0, f1, f2, f3, f4⟩ := HNW.out.cells
                have hb : W.drew.heap.size = W.heap.size := rfl
                have c5 := (hu.block w5.heap.size (by omega) (fun h => h)).trans (show W.drew.heap[w5.heap.size]? = _ from hWe)
                obtain ⟨⟨q0, q1, q2⟩, _, _⟩ := cells3P c5
                exact ⟨(hu.cell f4 (fun h => h)).trans f1, q0, q1, q2⟩⟩
              rw [← hW]
              clear hW hp5 hpW hNW hRW hsp hz5 hWs hWe hWx d0 d1 d2 d3 d4 d5 d6
              refine wp_region_T (P := Tryz.prog) (fun v => v.cell? ⟨w2.heap.size + 1 + 1, 1, none⟩ = some (.slice Ag (newGroups l g).length cg) ∧ v.cell? ⟨w5.heap.size, 0, none⟩ = some (.int .i64 e.k) ∧ v.cell? ⟨w5.heap.size, 1, none⟩ = some (.string e.name) ∧ v.cell? ⟨w5.heap.size, 2, none⟩ = some (.slice Ae e.l.length ce)) 6 (by kernel_rfl) ?_ (fun hHeld => ?_)
              · first | exact HSK.out _ (Upd.refl _ _) | exact HSK.out _ HU7.out
              refine zT 0 ?_
              refine zT 1 ?_
              refine zT 2 ?_
              refine zT 3 ?_
              (try simp only [Act.put, sA, sB, sC])
              refine zT 4 ?_
              refine oT 5 (fun K hK => ?_)
              go_simp
              (go_at_call 125; refine HRC.out.mono ?_; rintro r w7 ⟨rfl, hu⟩; have HU7 := As.mk hu; clear hu)
              refine hK.out _ _ (fun _ => by first | exact HSK.out _ (Upd.refl _ _) | exact HSK.out _ HU7.out) (fun hHeld => ?_)
              replace hHeld := hHeld (by decide)
              clear hK K
              (try simp only [Act.put, sA, sB, sC])
              refine oT 6 (fun K hK => ?_)
              go_simp
              refine hK.out _ _ (fun h => absurd rfl h) (fun hHeld => ?_)
              clear hK K
              (try simp only [Act.put, sA, sB, sC])
              refine wpAnyT_done (by kernel_rfl) ?_ _
              go_wp2
              have HN7 := As.mk ((HNW.out.kept HU7.out).kept ((Upd.refl (fun _ => False) w7).drew))
              have hR7 : exR.row w7.drew (fun q => wr.heap.size + 1 ≤ q) Ae e.l := Rp.row_pure HRW.out HU7.out.drew
              have hz7 : W.heap.size ≤ w7.heap.size := HU7.out.size
              have HRP := As.mk (show ruleR.rep w7.drew (fun q => wr.heap.size + 1 ≤ q) (x, e) [.string x.name, .string x.expr, .bool x.leaf, .int .i64 x.marks, .int .i64 x.least, .int .i64 x.most, .bool x.lines, .int .i64 e.k, .string e.name, .slice Ae e.l.length ce] from ⟨x.cs, [.int .i64 e.k, .string e.name, .slice Ae e.l.length ce], rfl, rfl, ex_rep HLE.out hR7⟩)
              have HLB := As.mk (fun (q : Nat) (h : Lv.ownBlock = some q) => Rp.own_block_lt HN.out.rules q h)
              have h6 : w6.heap.size ≤ wr.heap.size := HN.out.up.size
              have HSK2 : As (∀ v, Upd (fun q => Lv.ownBlock = some q) w7.drew v → v.cell? ⟨w2.heap.size + 1 + 1, 0, none⟩ = some Lv ∧ v.frozen? ⟨w2.heap.size + 1 + 1, 0, none⟩ = false ∧ (v.cell? ⟨w5.heap.size, 0, none⟩ = some (.int .i64 e.k) ∧ v.cell? ⟨w5.heap.size, 1, none⟩ = some (.string e.name) ∧ v.cell? ⟨w5.heap.size, 2, none⟩ = some (.slice Ae e.l.length ce)) ∧ v.cell? ⟨wr.heap.size, 0, none⟩ = some (.string x.name) ∧ v.cell? ⟨wr.heap.size, 1, none⟩ = some (.string x.expr) ∧ v.cell? ⟨wr.heap.size, 2, none⟩ = some (.bool x.leaf) ∧ v.cell? ⟨wr.heap.size, 3, none⟩ = some (.int .i64 x.marks) ∧ v.cell? ⟨wr.heap.size, 4, none⟩ = some (.int .i64 x.least) ∧ v.cell? ⟨wr.heap.size, 5, none⟩ = some (.int .i64 x.most) ∧ v.cell? ⟨wr.heap.size, 6, none⟩ = some (.bool x.lines)) := ⟨by
                intro v hu
                obtain ⟨hWs, hWe, hWx, hz5⟩ := HB.out
                obtain ⟨f0, f1, f2, f3, f4⟩ := HN7.out.cells
                have hcl := HN7.out.cbl
                have n1 : ¬ Lv.ownBlock = some (w2.heap.size + 1 + 1) := fun h => by have := (HLB.out _ h).1; omega
                have n2 : ¬ Lv.ownBlock = some wr.heap.size := fun h => by have := (HLB.out _ h).2; omega
                have n3 : ¬ Lv.ownBlock = some w5.heap.size := fun h => by have := (HLB.out _ h).2; omega
                have hd : w7.drew.heap.size = w7.heap.size := rfl
                have hdW : W.drew.heap.size = W.heap.size := rfl
                have c5 := (hu.block w5.heap.size (by omega) n3).trans ((HU7.out.drew.block w5.heap.size (by omega) (fun h => h)).trans (show W.drew.heap[w5.heap.size]? = _ from hWe))
                have cx := (hu.block wr.heap.size (by omega) n2).trans ((HU7.out.drew.block wr.heap.size (by omega) (fun h => h)).trans (show W.drew.heap[wr.heap.size]? = _ from hWx))
                refine ⟨(hu.cell f4 n1).trans f0, (hu.frozen f4 n1).trans f2, (cells3P c5).1, ?_, ?_, ?_, ?_, ?_, ?_, ?_⟩ <;> (unfold World.cell?; simp only [cx]; rfl)⟩
              have HSQ := As.mk (show w6.heap.size ≤ wr.heap.size ∧ w6.heap.size ≤ w7.heap.size from ⟨h6, by have := HB.out; omega⟩)
              have HLEN : As (((((wholeSpec whole :: l).zip es).take k).length + 1) * 120 ≤ 140737488355328) := ⟨by
                simp only [List.length_take, List.length_zip, List.length_cons]
                omega⟩
              clear hR7 hz7 h6
              refine wp_region_T (P := Tryz.prog) (fun v => v.cell? ⟨w2.heap.size + 1 + 1, 0, none⟩ = some Lv ∧ v.frozen? ⟨w2.heap.size + 1 + 1, 0, none⟩ = false ∧ (v.cell? ⟨w5.heap.size, 0, none⟩ = some (.int .i64 e.k) ∧ v.cell? ⟨w5.heap.size, 1, none⟩ = some (.string e.name) ∧ v.cell? ⟨w5.heap.size, 2, none⟩ = some (.slice Ae e.l.length ce)) ∧ v.cell? ⟨wr.heap.size, 0, none⟩ = some (.string x.name) ∧ v.cell? ⟨wr.heap.size, 1, none⟩ = some (.string x.expr) ∧ v.cell? ⟨wr.heap.size, 2, none⟩ = some (.bool x.leaf) ∧ v.cell? ⟨wr.heap.size, 3, none⟩ = some (.int .i64 x.marks) ∧ v.cell? ⟨wr.heap.size, 4, none⟩ = some (.int .i64 x.least) ∧ v.cell? ⟨wr.heap.size, 5, none⟩ = some (.int .i64 x.most) ∧ v.cell? ⟨wr.heap.size, 6, none⟩ = some (.bool x.lines)) 12 (by kernel_rfl) ?_ (fun hHeld => ?_)
              · first | exact HSK2.out _ (Upd.refl _ _) | exact HSK2.out _ (Upd.alloc1 _ _ _) | exact HSK2.out _ HU9.out
              refine zT 0 ?_
              (try simp only [Act.put, sA, sB, sC])
              refine zT 1 ?_
              refine zT 2 ?_
              refine zT 3 ?_
              refine zT 4 ?_
              (try simp only [Act.put, sA, sB, sC])
              refine zT 5 ?_
              refine zT 6 ?_
              refine zT 7 ?_
              refine oT 8 (fun K hK => ?_)
              go_simp
              refine hK.out _ _ (fun _ => by first | exact HSK2.out _ (Upd.refl _ _) | exact HSK2.out _ (Upd.alloc1 _ _ _) | exact HSK2.out _ HU9.out) (fun hHeld => ?_)
              replace hHeld := hHeld (by decide)
              clear hK K
              (try simp only [Act.put, sA, sB, sC])
              refine oT 9 (fun K hK => ?_)
              refine Rp.step_append_one ruleR (W := w7.drew) (F := fun q => w6.heap.size ≤ q) (Fp := fun q => wr.heap.size + 1 ≤ q) (G := fun q => w6.heap.size ≤ q) HN7.out.rules (x, e) [.string x.name, .string x.expr, .bool x.leaf, .int .i64 x.marks, .int .i64 x.least, .int .i64 x.most, .bool x.lines, .int .i64 e.k, .string e.name, .slice Ae e.l.length ce] HRP.out (fun q hq _ => ⟨by have := HSQ.out.1; omega, fun h => by have := (HLB.out q h.symm).2; omega⟩) (fun _ h => h) (fun q hq => by have h8 : w7.heap.size ≤ q := hq; have := HSQ.out.2; omega) (by rfl) _ _ 95 (.agg #[.string ⟨#[]⟩, .string ⟨#[]⟩, .bool false, .int .i64 0, .int .i64 0, .int .i64 0, .bool false, .int .i64 0, .string ⟨#[]⟩, .slice none 0 0]) 120 (by rfl) Tryz.underlying95 rule_info rfl (by decide) (by decide) (by rfl) (n := w7.heap.size) rfl (by rfl) (HLEN.out) ?_; intro v9 w9 ho9 hu9; obtain ⟨A9, c9, rfl, _, _⟩ := Rp.own_slice ho9; have HO9 := As.mk ho9; have HU9 := As.mk hu9; obtain ⟨s1, s2, s3⟩ := HSK2.out w9 hu9; clear ho9 hu9
              refine hK.out _ _ (fun _ => by first | exact HSK2.out _ (Upd.refl _ _) | exact HSK2.out _ (Upd.alloc1 _ _ _) | exact HSK2.out _ HU9.out) (fun hHeld => ?_)
              replace hHeld := hHeld (by decide)
              clear hK K
              (try simp only [Act.put, sA, sB, sC])
              refine oT 10 (fun K hK => ?_)
              go_simp
              refine hK.out _ _ (fun _ => by first | exact HSK2.out _ (Upd.refl _ _) | exact HSK2.out _ (Upd.alloc1 _ _ _) | exact HSK2.out _ HU9.out) (fun hHeld => ?_)
              replace hHeld := hHeld (by decide)
              clear hK K
              (try simp only [Act.put, sA, sB, sC])
              refine zT 11 ?_
              refine oT 12 (fun K hK => ?_)
              go_simp
              refine hK.out _ _ (fun h => absurd rfl h) (fun hHeld => ?_)
              clear hK K
              (try simp only [Act.put, sA, sB, sC])
              refine wpAnyT_done (by kernel_rfl) ?_ _
              have hN9 := NewL.next HN7.out HO9.out HU9.out
              rw [show ((((wholeSpec whole :: l).zip es).take k) ++ ([(x, e)] : List (Spec × Ex))).length = min k (l.length + 1) + 1 by simp [hes]] at hN9
              rw [← HX.out] at hN9
              have HN9 := As.mk hN9
              clear hN9
              try go_wp2
              go_roundg g1
              case measure => omega
              case rel => exact ⟨k + 1, by have := HK.out; omega, by go_num, ⟨_, HN9.out⟩⟩
            · obtain rfl : k = l.length + 1 := by omega
              obtain ⟨Lv, hN⟩ := HP.out
              have hzl : ((wholeSpec whole :: l).zip es).length = l.length + 1 := by simp [hes]
              rw [List.take_of_length_le (by omega)] at hN
              have HN := As.mk hN
              clear hN HP hlt hk hzl HL6
              go_wp2
              obtain ⟨AL, cL, hLv, hlL, hrL⟩ := Rp.own_slice HN.out.rules
              have hb := HN.out.blk
              rw [hLv] at hb
              exact bodyPost_ret (v := .tuple #[.pointer (some ⟨w2.heap.size + 1 + 1, 0, none⟩), .int .i64 0]) (by simp [results, Tryz.results61, go_sem]) rfl ⟨_, rfl, ⟨AL, cL, Ag, cg, hb, hlL, Rp.row_fp hrL (fun _ _ => trivial), Rp.row_fp (Rp.row_upd HGR.out HN.out.up (fun q _ h e => h e)) (fun _ _ => trivial)⟩, HCB.out, HN6.out.up.trans HN.out.up (fun q hq h => by have := HCB.out; omega)⟩
end Go.Proofs.YtofjodppljnlaaaGreatDoor
namespace Go.Proofs.YtofjodppljnlaaaGreatDoor
open Go.RowKit
open Go.Great
set_option linter.unusedVariables false
set_option linter.unusedSimpArgs false
def houseSpecs : List Spec := [⟨⟨#[112, 97, 114, 97]⟩, ⟨#[116, 101, 120, 116, 42]⟩, false, 7, 0, 0, false⟩, ⟨⟨#[104, 101, 97, 100]⟩, ⟨#[116, 101, 120, 116, 42]⟩, false, 7, 1, 6, false⟩, ⟨⟨#[113, 117, 111, 116, 101]⟩, ⟨#[98, 108, 111, 99, 107, 43]⟩, false, 0, 0, 0, false⟩, ⟨⟨#[99, 111, 100, 101]⟩, ⟨#[116, 101, 120, 116, 42]⟩, false, 0, 0, 0, true⟩, ⟨⟨#[108, 105, 115, 116]⟩, ⟨#[105, 116, 101, 109, 43]⟩, false, 0, 0, 1, false⟩, ⟨⟨#[105, 116, 101, 109]⟩, ⟨#[98, 108, 111, 99, 107, 43]⟩, false, 0, 0, 0, false⟩, ⟨⟨#[114, 117, 108, 101]⟩, ⟨#[]⟩, true, 0, 0, 0, false⟩]
def houseCells : Array Value := (houseSpecs.flatMap Spec.cs).toArray
def zeroCells : Array Value := ((List.replicate 7 (Spec.mk ⟨#[]⟩ ⟨#[]⟩ false 0 0 0 false)).flatMap Spec.cs).toArray
theorem arr_info : (Tryz.prog.info? 78).map (fun i => (i.zero, i.size)) = some (some (.agg zeroCells), 49) := by kernel_rfl
theorem specs_calls (w : World) : Calls Tryz.prog 60 #[] w fun r w' => r = .returned (.agg houseCells) ∧ Pure w w' := by
  obtain ⟨hz, hs⟩ := zero_of_info arr_info
  go_enter Tryz.func60, Tryz.ntmps60
  refine wp_seq (wp_region_list ?_)
  refine wpList_allocTo rfl _ rfl (.pointer (some ⟨w.heap.size, 0, none⟩)) (.cells zeroCells 78) (by simp [execOp, Instr.alloc, hz, Value.cells, newVar, newRow]) ?_
  refine wpList_nil ?_
  refine wp_seq (wp_region_list ?_)
  iterate 8 refine wpList_build rfl _ _ rfl (by kernel_rfl) ?_
  refine wpList_store_row rfl _ _ _ rfl w.heap.size houseCells (by kernel_rfl) (by kernel_rfl) _ zeroCells (heap_alloc_new w _) (by rw [hs]; kernel_rfl) (by kernel_rfl) (by kernel_rfl) ?_
  refine wpList_nil ?_
  rw [World.setRow_alloc_new]
  refine wp_ret ?_
  exact bodyPost_ret (results_cell_row (P := Tryz.prog) rfl _ _ w.heap.size 78 houseCells (0, 0) _ (by kernel_rfl) (heap_alloc_new w _) Tryz.underlying78 rfl (by rw [hs]; kernel_rfl)) rfl ⟨rfl, Upd.alloc1 _ _ _⟩
end Go.Proofs.YtofjodppljnlaaaGreatDoor
namespace Go.Proofs.YtofjodppljnlaaaGreatDoor
open Go.RowKit
set_option linter.unusedVariables false
set_option linter.unusedSimpArgs false
def blockName : ByteArray := ⟨#[98, 108, 111, 99, 107]⟩
def itemName : ByteArray := ⟨#[105, 116, 101, 109]⟩
def blockPlus : ByteArray := ⟨#[98, 108, 111, 99, 107, 43]⟩
def itemPlus : ByteArray := ⟨#[105, 116, 101, 109, 43]⟩
def textStar : ByteArray := ⟨#[116, 101, 120, 116, 42]⟩
def houseGrp : List Grp := [⟨blockName, [1, 2, 3, 4, 5, 7]⟩]
def exS (kk : Int) (nm : ByteArray) : Ex := .mk kk ⟨#[]⟩ [.mk 1 nm []]
def houseEs : List Ex := [exS 5 blockName, exS 4 textName, exS 4 textName, exS 5 blockName, exS 4 textName, exS 5 itemName, exS 5 blockName, .mk 0 ⟨#[]⟩ []]
theorem house_names : namesB houseSpecs houseGrp = true := by kernel_rfl
theorem house_fits : houseSpecs.any (fun x => !fitsB x) = false := by kernel_rfl
theorem house_checks : houseEs.all (fun e => decide (regCheck e (newGroups houseSpecs houseGrp) = 0)) = true := by kernel_rfl
theorem sign_text : NameSign textStar 4 4 := by
  refine ⟨⟨by decide, by decide, by decide, fun i h1 h2 => ?_, fun _ => by kernel_rfl⟩, rfl, fun h => .inl ⟨by rfl, rfl⟩, by kernel_rfl, fun h => ⟨by rfl, by rfl, Nat.le_of_ble_eq_true (by rfl)⟩⟩
  have h : i = 0 ∨ i = 1 ∨ i = 2 ∨ i = 3 := by omega
  rcases h with rfl | rfl | rfl | rfl
  · exact (by kernel_rfl : nameB (textStar.extract 0 (0 + 1)) = true)
  · exact (by kernel_rfl : nameB (textStar.extract 1 (1 + 1)) = true)
  · exact (by kernel_rfl : nameB (textStar.extract 2 (2 + 1)) = true)
  · exact (by kernel_rfl : nameB (textStar.extract 3 (3 + 1)) = true)
theorem sign_block : NameSign blockPlus 5 5 := by
  refine ⟨⟨by decide, by decide, by decide, fun i h1 h2 => ?_, fun _ => by kernel_rfl⟩, rfl, fun h => .inr (.inl ⟨by rfl, rfl⟩), by kernel_rfl, fun h => ⟨by rfl, by rfl, Nat.le_of_ble_eq_true (by rfl)⟩⟩
  have h : i = 0 ∨ i = 1 ∨ i = 2 ∨ i = 3 ∨ i = 4 := by omega
  rcases h with rfl | rfl | rfl | rfl | rfl
  · exact (by kernel_rfl : nameB (blockPlus.extract 0 (0 + 1)) = true)
  · exact (by kernel_rfl : nameB (blockPlus.extract 1 (1 + 1)) = true)
  · exact (by kernel_rfl : nameB (blockPlus.extract 2 (2 + 1)) = true)
  · exact (by kernel_rfl : nameB (blockPlus.extract 3 (3 + 1)) = true)
  · exact (by kernel_rfl : nameB (blockPlus.extract 4 (4 + 1)) = true)
theorem sign_item : NameSign itemPlus 4 5 := by
  refine ⟨⟨by decide, by decide, by decide, fun i h1 h2 => ?_, fun _ => by kernel_rfl⟩, rfl, fun h => .inr (.inl ⟨by rfl, rfl⟩), by kernel_rfl, fun h => ⟨by rfl, by rfl, Nat.le_of_ble_eq_true (by rfl)⟩⟩
  have h : i = 0 ∨ i = 1 ∨ i = 2 ∨ i = 3 := by omega
  rcases h with rfl | rfl | rfl | rfl
  · exact (by kernel_rfl : nameB (itemPlus.extract 0 (0 + 1)) = true)
  · exact (by kernel_rfl : nameB (itemPlus.extract 1 (1 + 1)) = true)
  · exact (by kernel_rfl : nameB (itemPlus.extract 2 (2 + 1)) = true)
  · exact (by kernel_rfl : nameB (itemPlus.extract 3 (3 + 1)) = true)
theorem parse_text : ParsesTo textStar (exS 4 textName) := parse_name sign_text (by decide)
theorem parse_block : ParsesTo blockPlus (exS 5 blockName) := parse_name sign_block (by decide)
theorem parse_item : ParsesTo itemPlus (exS 5 itemName) := parse_name sign_item (by decide)
theorem house_parses : ∀ (k : Nat) (s : Spec) (e : Ex), (wholeSpec blockPlus :: houseSpecs)[k]? = some s → houseEs[k]? = some e → ParsesTo s.expr e ∧ regCheck e (newGroups houseSpecs houseGrp) = 0 ∧ e.wt ≤ 1048576 := by
  intro k s e hs he
  have hc : regCheck e (newGroups houseSpecs houseGrp) = 0 := by simpa using List.all_eq_true.1 house_checks e (List.mem_of_getElem? he)
  have hw : houseEs.all (fun e => decide (e.wt ≤ 1048576)) = true := by kernel_rfl
  have hw1 : e.wt ≤ 1048576 := by simpa using List.all_eq_true.1 hw e (List.mem_of_getElem? he)
  refine ⟨?_, hc, hw1⟩
  have hk : k < 8 := (List.getElem?_eq_some_iff.1 he).1
  have h : k = 0 ∨ k = 1 ∨ k = 2 ∨ k = 3 ∨ k = 4 ∨ k = 5 ∨ k = 6 ∨ k = 7 := by omega
  rcases h with rfl | rfl | rfl | rfl | rfl | rfl | rfl | rfl <;> (injection hs with hs; injection he with he; subst hs; subst he)
  · exact parse_block
  · exact parse_text
  · exact parse_text
  · exact parse_block
  · exact parse_text
  · exact parse_item
  · exact parse_block
  · exact parse_empty
end Go.Proofs.YtofjodppljnlaaaGreatDoor
namespace Go.Proofs.YtofjodppljnlaaaGreatDoor
open Go.RowKit
open Go.Great
set_option linter.unusedVariables false
set_option linter.unusedSimpArgs false
def houseRules : List (Spec × Ex) := (wholeSpec blockPlus :: houseSpecs).zip houseEs
def houseGroups : List Grp := newGroups houseSpecs houseGrp
theorem house_reps (w : World) (F : Nat → Prop) : Reps (specR.rep w F) 7 houseSpecs houseCells.toList := by
  refine ⟨by kernel_rfl, fun j x hx => ?_⟩
  have hk : j < 7 := (List.getElem?_eq_some_iff.1 hx).1
  have h : j = 0 ∨ j = 1 ∨ j = 2 ∨ j = 3 ∨ j = 4 ∨ j = 5 ∨ j = 6 := by omega
  rcases h with rfl | rfl | rfl | rfl | rfl | rfl | rfl <;> (injection hx with hx; subst hx; rfl)
theorem house_ints (w : World) (F : Nat → Prop) : Reps (intR.rep w F) 1 [1, 2, 3, 4, 5, 7] [.int .i64 1, .int .i64 2, .int .i64 3, .int .i64 4, .int .i64 5, .int .i64 7] := by
  refine ⟨rfl, fun j x hx => ?_⟩
  have hk : j < 6 := (List.getElem?_eq_some_iff.1 hx).1
  have h : j = 0 ∨ j = 1 ∨ j = 2 ∨ j = 3 ∨ j = 4 ∨ j = 5 := by omega
  rcases h with rfl | rfl | rfl | rfl | rfl | rfl <;> (injection hx with hx; subst hx; rfl)
theorem house_small : ∀ x ∈ houseSpecs, x.name.size ≤ 1048576 := by
  have h : houseSpecs.all (fun x => decide (x.name.size ≤ 1048576)) = true := by kernel_rfl
  intro x hx
  simpa using List.all_eq_true.1 h x hx
theorem house_gsmall : ∀ x ∈ houseGrp, x.name.size ≤ 1048576 ∧ x.types.length ≤ 1000 := by
  have h : houseGrp.all (fun x => decide (x.name.size ≤ 1048576 ∧ x.types.length ≤ 1000)) = true := by kernel_rfl
  intro x hx
  simpa using List.all_eq_true.1 h x hx
theorem house_cells_size : houseCells.size = 49 := by kernel_rfl
set_option maxRecDepth 100000 in
set_option maxHeartbeats 4000000 in
theorem House_calls (w : World) : Calls Tryz.prog 13 #[] w fun r w' => ∃ cb, r = .returned (.pointer (some ⟨cb, 0, none⟩)) ∧ SchR w' cb houseRules houseGroups ∧ Pure w w' := by
  have HZ := As.mk (zero_of_info arr_info)
  have HSP := As.mk (specs_calls w)
  have HCR := As.mk (fun W F => house_reps W F)
  have HC1 := As.mk (by kernel_rfl : (houseCells.all (·.oneCell')) = true)
  have HC2 := As.mk house_cells_size
  have HC3 := As.mk (by kernel_rfl : zeroCells.size = 49)
  generalize houseCells = hc at *
  go_enter Tryz.func13, Tryz.ntmps13
  go_wp2_with (go_at_call 60; refine HSP.out.mono ?_; rintro e w1 ⟨rfl, hu⟩; have HU1 := As.mk hu; clear hu; apply As.out)
  refine ⟨?_⟩
  rename_i hKK
  refine hKK _ _ ?_
  refine wpList_allocTo rfl _ rfl (.pointer (some ⟨w1.heap.size, 0, none⟩)) (.cells zeroCells 78) (by simp [execOp, Instr.alloc, HZ.out.1, Value.cells, newVar, newRow]) ?_
  refine wpList_store_row rfl _ _ _ rfl w1.heap.size hc (by rfl) (by rfl) _ zeroCells (heap_alloc_new w1 _) (by rw [HZ.out.2, HC2.out]) (by rw [HC2.out, HC3.out]) HC1.out ?_
  rw [World.setRow_alloc_new]
  obtain ⟨W, hW⟩ : ∃ W, W = w1.alloc (.cells hc 78) := ⟨_, rfl⟩
  have HWB := As.mk (show W.heap[w1.heap.size]? = some (.cells hc 78 (0, 0)) from hW ▸ heap_alloc_new w1 _)
  have HPW := As.mk (show Pure w W from hW ▸ HU1.out.alloc _)
  rw [← hW]
  clear hW
  have hI : Pure W ((W.alloc (.cells #[.int .i64 1, .int .i64 2, .int .i64 3, .int .i64 4, .int .i64 5, .int .i64 7] 3)).alloc (.cells #[.string blockName, .slice (some ⟨W.heap.size, 0, none⟩) 6 6] 85)) := (Upd.alloc1 _ _ _).alloc _
  have hz : (W.alloc (.cells #[.int .i64 1, .int .i64 2, .int .i64 3, .int .i64 4, .int .i64 5, .int .i64 7] 3)).heap.size = W.heap.size + 1 := by simp
  have hir := Rp.row_pure (Rp.row_of_block (d := intR) (F := fun _ => True) (heap_alloc_new W (.cells #[.int .i64 1, .int .i64 2, .int .i64 3, .int .i64 4, .int .i64 5, .int .i64 7] 3)) trivial (house_ints _ _)) (Upd.alloc1 (fun _ => False) _ (.cells #[.string blockName, .slice (some ⟨W.heap.size, 0, none⟩) 6 6] 85))
  have hgb := heap_alloc_new (W.alloc (.cells #[.int .i64 1, .int .i64 2, .int .i64 3, .int .i64 4, .int .i64 5, .int .i64 7] 3)) (.cells #[.string blockName, .slice (some ⟨W.heap.size, 0, none⟩) 6 6] 85)
  rw [hz] at hgb
  have hgr : grpR.row _ (fun _ => True) (some ⟨W.heap.size + 1, 0, none⟩) houseGrp := Rp.row_of_block hgb trivial (Reps.single (x := (⟨blockName, [1, 2, 3, 4, 5, 7]⟩ : Grp)) ⟨_, _, rfl, Nat.le_refl 6, hir⟩ rfl)
  have hsr := Rp.row_pure (Rp.row_of_block (d := specR) (F := fun _ => True) HWB.out trivial (HCR.out W _)) hI
  have HNEW := As.mk (New_calls (c := 7) (d := 1) (whole := blockPlus) (es := houseEs) hsr hgr (by decide) (by decide) house_small house_gsmall house_names house_fits rfl house_parses)
  have HI := As.mk (HPW.out.trans hI (fun _ _ h => h))
  clear hI hz hir hgb hgr hsr
  go_wp2_with (go_at_call 61; refine HNEW.out.mono ?_; rintro e w7 ⟨cb, rfl, hsch, _, hu⟩; have HS := As.mk hsch; have HU7 := As.mk (HI.out.trans hu (fun _ _ h => h)); clear hsch hu)
  go_ret
  exact ⟨_, rfl, HS.out, HU7.out⟩
end Go.Proofs.YtofjodppljnlaaaGreatDoor
namespace Go.Proofs.YtofjodppljnlaaaGreatDoor
open Go.RowKit
set_option linter.unusedVariables false
set_option linter.unusedSimpArgs false
def stkStep (i : Nat) (x : Tok) (s : List Int) : List Int := if x.k = 1 then s ++ [(i : Int)] else if x.k = 2 then s.dropLast else s
def stkGo : Nat → List Tok → List Int → List Int
  | _, [], s => s
  | i, x :: r, s => stkGo (i + 1) r (stkStep i x s)
/-- The places of what is open at a place. -/
def stackL (l : List Tok) (at' : Int) : List Int := if at' > l.length then [] else stkGo 0 (l.take (max at' 0).toNat) []
def aroundL (l : List Tok) (at' : Int) : Int := (stackL l at').getLast?.getD (-1)
abbrev intRS : Rp Int := Rp.int .i64
theorem int_infoS : (Tryz.prog.info? 3).map (fun i => (i.zero, i.size, i.bytes)) = some (some (.int .i64 0), 1, 8) := by kernel_rfl
theorem Reps.take {α : Type} {R : α → List Value → Prop} {size : Nat} {xs : List α} {cs : List Value} (h : Reps R size xs cs) (k : Nat) (hk : k ≤ xs.length) : Reps R size (xs.take k) (cs.take (k * size)) := by
  have hle : k * size ≤ xs.length * size := Nat.mul_le_mul_right _ hk
  refine ⟨by rw [List.length_take, List.length_take, h.1, Nat.min_eq_left hle, Nat.min_eq_left hk], fun j x hx => ?_⟩
  rw [List.getElem?_take] at hx
  split at hx
  · rename_i hj
    have hle2 : (j + 1) * size ≤ k * size := Nat.mul_le_mul_right _ hj
    rw [Nat.add_mul, Nat.one_mul] at hle2
    rw [List.drop_take, List.take_take, Nat.min_eq_left (by omega)]
    exact h.2 j x hx
  · cases hx
/-- A row of the call's own, cut. -/
theorem Rp.own_take {α : Type} {d : Rp α} {e : Nat} {w : World} {F : Nat → Prop} {a : Addr} {n cap : Nat} {xs : List α} (h : d.own e w F (.slice (some a) n cap) xs) (k : Nat) (hk : k ≤ xs.length) : d.own e w F (.slice (some a) k cap) (xs.take k) := by
  obtain ⟨inner, ⟨h1, h2⟩, hF, hr⟩ := h
  have hle : k * d.sz ≤ xs.length * d.sz := Nat.mul_le_mul_right _ hk
  refine ⟨inner.take (k * d.sz), ⟨by rw [List.length_take, List.length_take, h1, Nat.min_eq_left hle, Nat.min_eq_left hk], ?_⟩, hF, hr.take k hk⟩
  rcases h2 with ⟨h2, _⟩ | ⟨g, cap', cur, hv, hb, hg, hnc, hcm, hcs, htake⟩
  · cases h2
  · simp at hv
    obtain ⟨rfl, rfl, rfl⟩ := hv
    refine .inr ⟨g, cap, cur, by simp [Nat.min_eq_left hk], hb, hg, by rw [List.length_take, Nat.min_eq_left hk]; omega, hcm, hcs, ?_⟩
    rw [List.length_take, Nat.min_eq_left hk, ← htake, List.take_take, Nat.min_eq_left hle]
theorem Rp.own_val {α : Type} {d : Rp α} {e : Nat} {w : World} {F : Nat → Prop} {v : Value} {xs : List α} (h : d.own e w F v xs) (hx : xs ≠ []) : ∃ a c, v = .slice (some a) xs.length c := by
  obtain ⟨inner, ⟨h1, h2⟩, hF, hr⟩ := h
  rcases h2 with ⟨_, h0⟩ | ⟨g, cap', cur, hv, _⟩
  · exact absurd (List.eq_nil_of_length_eq_zero h0) hx
  · exact ⟨_, _, hv⟩
theorem Rp.own_nil_val {α : Type} {d : Rp α} {e : Nat} {w : World} {F : Nat → Prop} {v : Value} (h : d.own e w F v []) : v = .slice none 0 0 ∨ ∃ a cc, v = .slice (some a) 0 cc := by
  obtain ⟨inner, ⟨h1, h2⟩, hF, hr⟩ := h
  rcases h2 with ⟨h2, _⟩ | ⟨g, cap', cur, hv, _⟩
  · exact .inl h2
  · exact .inr ⟨_, _, hv⟩
theorem int_own_at {e : Nat} {w : World} {F : Nat → Prop} {a : Addr} {n c : Nat} {xs : List Int} (h : intRS.own e w F (.slice (some a) n c) xs) {j : Nat} {x : Int} (hx : xs[j]? = some x) : ∃ b, a = ⟨b, 0, none⟩ ∧ b < w.heap.size ∧ w.cell? ⟨b, j, none⟩ = some (.int .i64 x) := by
  have hlt := Rp.own_block_lt h
  have hown := h
  obtain ⟨A, c', hv, _, hr⟩ := Rp.own_slice h
  obtain ⟨b, o, cs, hA, _, hb, hr', hc⟩ := Rp.row_at hr hx
  have hr2 : cs = [.int .i64 x] := hr'
  subst hr2
  have := hc 0 _ rfl
  rw [show intRS.sz = 1 from rfl, Nat.mul_one] at this
  obtain ⟨inner, ⟨h1, h2⟩, _⟩ := hown
  rcases h2 with ⟨h2, _⟩ | ⟨g, cap', cur, hv2, _⟩
  · cases h2
  · simp at hv hv2
    obtain ⟨rfl, _⟩ := hv2
    rw [← hv.1] at hA
    simp at hA
    obtain ⟨rfl, rfl⟩ := hA
    exact ⟨g, rfl, hb, by simpa using this⟩
theorem stkStep_len (i : Nat) (x : Tok) (s : List Int) : (stkStep i x s).length ≤ s.length + 1 := by
  unfold stkStep
  split
  · simp
  · split
    · simp; omega
    · omega
theorem stkGo_len : ∀ (l : List Tok) (i : Nat) (s : List Int), (stkGo i l s).length ≤ s.length + l.length := by
  intro l
  induction l with
  | nil => intro i s; simp [stkGo]
  | cons x r ih =>
    intro i s
    have h1 := ih (i + 1) (stkStep i x s)
    have h2 := stkStep_len i x s
    simp only [stkGo, List.length_cons]
    omega
theorem stackL_len (l : List Tok) (at' : Int) : (stackL l at').length ≤ l.length := by
  unfold stackL
  split
  · simp
  · have := stkGo_len (l.take (max at' 0).toNat) 0 []
    have h2 := List.length_take_le (max at' 0).toNat l
    have h3 : (l.take (max at' 0).toNat).length ≤ l.length := by rw [List.length_take]; omega
    simp only [List.length_nil] at this
    omega
def StkRel (w wr : World) (l : List Tok) (m k : Nat) (v : Value) : Prop :=
  ∃ s : List Int, intRS.own 3 wr (fun q => w.heap.size ≤ q) v s ∧ s.length ≤ k ∧ stkGo k ((l.take m).drop k) s = stkGo 0 (l.take m) [] ∧ Pure w wr
theorem StkRel.step {w w1 : World} {l : List Tok} {m k : Nat} {v1 : Value} {s : List Int} {x : Tok} (hx : (l.take m)[k]? = some x) (hl : s.length ≤ k) (he : stkGo k ((l.take m).drop k) s = stkGo 0 (l.take m) []) (ho : intRS.own 3 w1 (fun q => w.heap.size ≤ q) v1 (stkStep k x s)) (hp : Pure w w1) : StkRel w w1 l m (k + 1) v1 := by
  refine ⟨_, ho, by have := stkStep_len k x s; omega, ?_, hp⟩
  rw [← he]
  obtain ⟨hk, hx2⟩ := List.getElem?_eq_some_iff.1 hx
  rw [List.drop_eq_getElem_cons hk, hx2]
  rfl
end Go.Proofs.YtofjodppljnlaaaGreatDoor
namespace Go.Proofs.YtofjodppljnlaaaGreatDoor
open Go.RowKit
set_option linter.unusedVariables false
set_option linter.unusedSimpArgs false
set_option maxRecDepth 100000 in
set_option maxHeartbeats 4000000 in
theorem none_calls {w : World} {cb : Nat} {rs : List (Spec × Ex)} {gs : List Grp} (h : SchR w cb rs gs) (hne : rs ≠ []) : Calls Tryz.prog 63 #[.pointer (some ⟨cb, 0, none⟩)] w fun r w' => r = .returned (.bool false) ∧ w' = w := by
  obtain ⟨AL, cL, AG, cG, hb, hl, hr, hg⟩ := h
  rcases hr with h | ⟨b, o, rfl, _, _, _⟩
  · exact absurd h hne
  have c0 : w.cell? ⟨cb, 0, none⟩ = some (.slice (some ⟨b, o, none⟩) rs.length cL) := by
    unfold World.cell?; simp only [hb]; rfl
  have heqn := fun (W : World) (a : Option Addr) (n c : Nat) => Lib.run_eql_slice_nil (P := Tryz.prog) W 95 94 a n c 0 0 Tryz.underlying95
  clear hb hl hg
  go_enter Tryz.func63, Tryz.ntmps63
  go_wp2
  go_ret
  exact ⟨rfl, rfl⟩
theorem rule_at {w : World} {F : Nat → Prop} {A : Option Addr} {xs : List (Spec × Ex)} (h : ruleR.row w F A xs) {j : Nat} {x : Spec} {e : Ex} (hx : xs[j]? = some (x, e)) :
    ∃ b o A1 c1, A = some ⟨b, o, none⟩ ∧ F b ∧ b < w.heap.size ∧ w.cell? ⟨b, o + j * 10, none⟩ = some (.string x.name) ∧ w.cell? ⟨b, o + j * 10 + 1, none⟩ = some (.string x.expr) ∧ w.cell? ⟨b, o + j * 10 + 2, none⟩ = some (.bool x.leaf) ∧ w.cell? ⟨b, o + j * 10 + 3, none⟩ = some (.int .i64 x.marks) ∧ w.cell? ⟨b, o + j * 10 + 4, none⟩ = some (.int .i64 x.least) ∧ w.cell? ⟨b, o + j * 10 + 5, none⟩ = some (.int .i64 x.most) ∧ w.cell? ⟨b, o + j * 10 + 6, none⟩ = some (.bool x.lines) ∧ w.cell? ⟨b, o + j * 10 + 7, none⟩ = some (.int .i64 e.k) ∧ w.cell? ⟨b, o + j * 10 + 8, none⟩ = some (.string e.name) ∧ w.cell? ⟨b, o + j * 10 + 9, none⟩ = some (.slice A1 e.l.length c1) ∧ e.l.length ≤ c1 ∧ exR.row w F A1 e.l := by
  obtain ⟨b, o, cs, hA, hF, hb, hr, hc⟩ := Rp.row_at h hx
  obtain ⟨c0, c1, rfl, h0, h1⟩ := hr
  have h0' : c0 = x.cs := h0
  subst h0'
  obtain ⟨A1, n1, rfl, hle, hrow⟩ := ExRep.parts h1
  exact ⟨b, o, A1, n1, hA, hF, hb, hc 0 _ rfl, hc 1 _ rfl, hc 2 _ rfl, hc 3 _ rfl, hc 4 _ rfl, hc 5 _ rfl, hc 6 _ rfl, hc 7 _ rfl, hc 8 _ rfl, hc 9 _ rfl, hle, hrow⟩
theorem SchR.cells {w : World} {cb : Nat} {rs : List (Spec × Ex)} {gs : List Grp} (h : SchR w cb rs gs) : ∃ AL cL AG cG, w.cell? ⟨cb, 0, none⟩ = some (.slice AL rs.length cL) ∧ w.cell? ⟨cb, 1, none⟩ = some (.slice AG gs.length cG) ∧ cb < w.heap.size ∧ rs.length ≤ cL ∧ ruleR.row w (fun _ => True) AL rs ∧ grpR.row w (fun _ => True) AG gs := by
  obtain ⟨AL, cL, AG, cG, hb, hl, hr, hg⟩ := h
  exact ⟨AL, cL, AG, cG, by unfold World.cell?; simp only [hb]; rfl, by unfold World.cell?; simp only [hb]; rfl, (Array.getElem?_eq_some_iff.1 hb).1, hl, hr, hg⟩
abbrev zeroSpec : Spec := ⟨⟨#[]⟩, ⟨#[]⟩, false, 0, 0, 0, false⟩
set_option maxRecDepth 100000 in
set_option maxHeartbeats 4000000 in
theorem Spec_in {w : World} {cb : Nat} {rs : List (Spec × Ex)} {gs : List Grp} (h : SchR w cb rs gs) {k : Nat} {x : Spec} {e : Ex} (hx : rs[k]? = some (x, e)) (hk : 1 ≤ k) (hl : rs.length ≤ 1000) : Calls Tryz.prog 73 #[.pointer (some ⟨cb, 0, none⟩), .int .i64 k] w fun r w' => r = .returned (.tuple #[x.val, .bool true]) ∧ Pure w w' := by
  have hlt : k < rs.length := (List.getElem?_eq_some_iff.1 hx).1
  have hne : rs ≠ [] := by rintro rfl; simp at hlt
  have HNO := As.mk (none_calls (h.pure (Upd.alloc1 (fun _ => False) w (.cells #[.string ⟨#[]⟩, .string ⟨#[]⟩, .bool false, .int .i64 0, .int .i64 0, .int .i64 0, .bool false] 34))) hne)
  obtain ⟨AL, cL, AG, cG, c0, _, hcb, hle, hrow, _⟩ := h.cells
  obtain ⟨b, o, A1, c1, rfl, _, hbl, d0, d1, d2, d3, d4, d5, d6, _⟩ := rule_at hrow hx
  have t1 : decide ((k : Int) < 1) = false := by simp; omega
  have t2 : decide ((k : Int) ≥ (rs.length : Int)) = false := by simp; omega
  have t3 : decide ((rs.length : Int) ≤ (k : Int)) = false := by simp; omega
  have t4 : decide (rs.length ≤ k) = false := by simp; omega
  have t5 : (k == 0) = false := by simp; omega
  clear hrow h hx
  go_enter Tryz.func73, Tryz.ntmps73
  go_wp2_with (go_at_call 63; refine HNO.out.mono ?_; rintro r w1 ⟨rfl, rfl⟩)
  exact bodyPost_ret (v := .tuple #[x.val, .bool true]) (by simp [results, Tryz.results73, go_sem, Spec.val]) rfl ⟨rfl, Upd.alloc1 _ _ _⟩
set_option maxRecDepth 100000 in
set_option maxHeartbeats 4000000 in
theorem Spec_low {w : World} {cb : Nat} {rs : List (Spec × Ex)} {gs : List Grp} (h : SchR w cb rs gs) (hne : rs ≠ []) (hl : rs.length ≤ 1000) {t : Int} (ht : t < 1) : Calls Tryz.prog 73 #[.pointer (some ⟨cb, 0, none⟩), .int .i64 t] w fun r w' => r = .returned (.tuple #[zeroSpec.val, .bool false]) ∧ Pure w w' := by
  have HNO := As.mk (none_calls (h.pure (Upd.alloc1 (fun _ => False) w (.cells #[.string ⟨#[]⟩, .string ⟨#[]⟩, .bool false, .int .i64 0, .int .i64 0, .int .i64 0, .bool false] 34))) hne)
  obtain ⟨AL, cL, AG, cG, c0, _, hcb, hle, _, _⟩ := h.cells
  have t1 : decide (t < 1) = true := by simpa using ht
  clear h
  go_enter Tryz.func73, Tryz.ntmps73
  go_wp2_with (go_at_call 63; refine HNO.out.mono ?_; rintro r w1 ⟨rfl, rfl⟩)
  exact bodyPost_ret (v := .tuple #[zeroSpec.val, .bool false]) (by simp [results, Tryz.results73, go_sem, Spec.val]) rfl ⟨rfl, Upd.alloc1 _ _ _⟩
set_option maxRecDepth 100000 in
set_option maxHeartbeats 4000000 in
theorem Spec_high {w : World} {cb : Nat} {rs : List (Spec × Ex)} {gs : List Grp} (h : SchR w cb rs gs) (hne : rs ≠ []) (hl : rs.length ≤ 1000) {t : Int} (ht : 1 ≤ t) (hh : (rs.length : Int) ≤ t) : Calls Tryz.prog 73 #[.pointer (some ⟨cb, 0, none⟩), .int .i64 t] w fun r w' => r = .returned (.tuple #[zeroSpec.val, .bool false]) ∧ Pure w w' := by
  have HNO := As.mk (none_calls (h.pure (Upd.alloc1 (fun _ => False) w (.cells #[.string ⟨#[]⟩, .string ⟨#[]⟩, .bool false, .int .i64 0, .int .i64 0, .int .i64 0, .bool false] 34))) hne)
  obtain ⟨AL, cL, AG, cG, c0, _, hcb, hle, _, _⟩ := h.cells
  have t1 : decide (t < 1) = false := by simp; omega
  have t2 : decide (t ≥ (rs.length : Int)) = true := by simpa using hh
  have t3 : decide ((rs.length : Int) ≤ t) = true := by simpa using hh
  clear h
  go_enter Tryz.func73, Tryz.ntmps73
  go_wp2_with (go_at_call 63; refine HNO.out.mono ?_; rintro r w1 ⟨rfl, rfl⟩)
  exact bodyPost_ret (v := .tuple #[zeroSpec.val, .bool false]) (by simp [results, Tryz.results73, go_sem, Spec.val]) rfl ⟨rfl, Upd.alloc1 _ _ _⟩
end Go.Proofs.YtofjodppljnlaaaGreatDoor
namespace Go.Proofs.YtofjodppljnlaaaGreatDoor
open Go.RowKit
set_option linter.unusedVariables false
set_option linter.unusedSimpArgs false
/-- append(v, x) of one element at a drawn region's step; its footprint is told sharply. -/
theorem Rp.step_append_keen {α : Type} (d : Rp α) {P : Program} {ops : Array Oper} {o : Oper} {a : Act} {Q : Exit → Act → World → Prop} {K : Act → World → Prop} {E : Prop} {e : Nat} {W : World} {F Fp : Nat → Prop} {v : Value} {xs : List α} (HO : d.own e W F v xs) (p : α) (cs : List Value) (hp : d.rep W Fp p cs)
    (hFp : ∀ k, Fp k → k < W.heap.size → some k ≠ v.ownBlock)
    (hgd : o.guard = none) (s x : Operand) (t : TypeId) (z : Value) (bytes : Nat)
    (ho : o.op = .call { callee := .builtin .append, args := #[s, x], argTypes := #[t, t] })
    (ht : P.underlying t = some (.slice e)) (hinfo : (P.info? e).map (fun i => (i.zero, i.size, i.bytes)) = some (some z, d.sz, bytes)) (hz : z.cells.size = d.sz) (hs0 : 0 < d.sz) (hb0 : 0 < bytes)
    (hs : a.eval s = v) {n : Nat} (hnb : n = W.heap.size) (hx : a.eval x = .slice (some ⟨n, 0, none⟩) 1 1) (hl : (xs.length + 1) * bytes ≤ 140737488355328)
    (h : ∀ v1 w1, d.own e w1 (fun k => (F k ∧ some k ≠ v.ownBlock) ∨ (Fp k ∧ k < W.heap.size) ∨ v1.ownBlock = some k) v1 (xs ++ [p]) → Upd (fun k => v.ownBlock = some k) W w1 → (v1.ownBlock = v.ownBlock ∨ ∃ b, v1.ownBlock = some b ∧ W.heap.size < b) → K (a.put o.dst v1) w1) :
    if Region.wanted o (yielded ops a.tmps) = true then Oper.wp P o a (W.alloc (.cells cs.toArray e)) K Q else E := by
  have hp1 : d.rep (W.alloc (.cells cs.toArray e)) (fun k => Fp k ∧ k < W.heap.size) p cs := d.move (fun k hk hl => ⟨⟨hk, hl⟩, by simp; omega, Below.heap_alloc W _ k hl⟩) hp
  refine Rp.step_append_row d (c := 1) (Rp.own_alloc HO (.cells cs.toArray e)) (Rp.row'_one hp1 (heap_alloc_new W _)) (fun k hk _ => hFp k hk.1 hk.2) hgd s x t z bytes ho ht hinfo hz hs0 hb0 hs (by rw [hx, hnb]; rfl) (by simpa using hl) ?_
  intro v1 w1 ho1 hu1 hat
  refine h v1 w1 ho1 ((Upd.alloc1 _ _ _).trans hu1 (fun _ _ h => h)) ?_
  rcases hat with hat | ⟨b, hb, hle⟩
  · exact .inl hat
  · have h9 : W.heap.size + 1 ≤ b := by simpa using hle
    exact .inr ⟨b, hb, h9⟩
/-- A level: a rule whose expression lies below B, and the value of its word. -/
def levR (B : Nat) : Rp ((Spec × Ex) × Value) where
  sz := 11
  rep := fun w F x cs => ∃ c0, cs = c0 ++ [x.2] ∧ x.2.oneCell' = true ∧ ruleR.rep w (fun k => F k ∧ k < B) x.1 c0
  len := by
    rintro w F x cs ⟨c0, rfl, _, h⟩
    rw [List.length_append, ruleR.len h]
    rfl
  one := by
    rintro w F x cs ⟨c0, rfl, h1, h⟩ u hu
    rcases List.mem_append.1 hu with hu | hu
    · exact ruleR.one h u hu
    · rw [List.mem_singleton.1 hu]
      exact h1
  move := by
    rintro w w1 F G x cs hm ⟨c0, rfl, h1, h⟩
    exact ⟨c0, rfl, h1, ruleR.move (fun k hk hl => ⟨⟨(hm k hk.1 hl).1, hk.2⟩, (hm k hk.1 hl).2⟩) h⟩
theorem rule_rep {w : World} {F : Nat → Prop} {x : Spec} {e : Ex} {cs : List Value} (h : ruleR.rep w F (x, e) cs) : ∃ A1 c1, cs = x.cs ++ [.int .i64 e.k, .string e.name, .slice A1 e.l.length c1] ∧ e.l.length ≤ c1 ∧ exR.row w F A1 e.l := by
  obtain ⟨c0, c1, rfl, h0, h1⟩ := h
  have h0' : c0 = x.cs := h0
  subst h0'
  obtain ⟨A1, n1, rfl, hle, hrow⟩ := ExRep.parts h1
  exact ⟨A1, n1, rfl, hle, hrow⟩
theorem rep_rule {w : World} {F : Nat → Prop} {x : Spec} {e : Ex} {A1 : Option Addr} {c1 : Nat} (hl : e.l.length ≤ c1) (h : exR.row w F A1 e.l) : ruleR.rep w F (x, e) (x.cs ++ [.int .i64 e.k, .string e.name, .slice A1 e.l.length c1]) :=
  ⟨x.cs, _, rfl, rfl, ex_rep hl h⟩
theorem own_set_last {B e : Nat} {w : World} {F : Nat → Prop} {b cap : Nat} {init : List ((Spec × Ex) × Value)} {r : Spec × Ex} {v v1 : Value} (h : (levR B).own e w F (.slice (some ⟨b, 0, none⟩) (init.length + 1) cap) (init ++ [(r, v)])) (h1 : v1.oneCell' = true) :
    (levR B).own e (w.setCell ⟨b, init.length * 11 + 10, none⟩ v1) F (.slice (some ⟨b, 0, none⟩) (init.length + 1) cap) (init ++ [(r, v1)]) := by
  obtain ⟨inner, ⟨hlen, ho⟩, hF, hr⟩ := h
  rcases ho with ⟨h, _⟩ | ⟨g, cap', cur, hv, hb0, hb, hnc, hcm, hcs, htk⟩
  · cases h
  simp only [Value.slice.injEq, Option.some.injEq, Addr.mk.injEq] at hv
  obtain ⟨⟨rfl, _⟩, hn, rfl⟩ := hv
  have hsz : (levR B).sz = 11 := rfl
  rw [hsz] at hlen hcs htk hr
  have hl1 : (init ++ [(r, v)]).length = init.length + 1 := by simp
  rw [hl1] at hlen hnc htk
  have hlast := hr.2 init.length (r, v) (by simp)
  obtain ⟨c0, hc0, _, hrep⟩ := hlast
  have hc0l : c0.length = 10 := ruleR.len hrep
  have hinner : inner = inner.take (init.length * 11) ++ (c0 ++ [v]) := by
    rw [← hc0, List.take_of_length_le (l := inner.drop _) (by rw [List.length_drop]; omega), List.take_append_drop]
  have hset : inner.set (init.length * 11 + 10) v1 = inner.take (init.length * 11) ++ (c0 ++ [v1]) := by
    conv => lhs; rw [hinner]
    rw [List.set_append_right _ _ (by rw [List.length_take]; omega), List.length_take, Nat.min_eq_left (by omega), show init.length * 11 + 10 - init.length * 11 = 10 by omega, List.set_append_right _ _ (by omega), hc0l]
    rfl
  have hmove : ∀ k, F k ∧ some k ≠ Value.ownBlock (.slice (some ⟨b, 0, none⟩) (init.length + 1) cap) → k < w.heap.size → (F k ∧ some k ≠ Value.ownBlock (.slice (some ⟨b, 0, none⟩) (init.length + 1) cap)) ∧ k < (w.setCell ⟨b, init.length * 11 + 10, none⟩ v1).heap.size ∧ (w.setCell ⟨b, init.length * 11 + 10, none⟩ v1).heap[k]? = w.heap[k]? := by
    intro k hk hl
    refine ⟨hk, by simpa [World.setCell] using hl, Below.heap_setCell w ⟨b, init.length * 11 + 10, none⟩ v1 k (fun e => hk.2 ?_)⟩
    show some k = some b
    rw [e]
  have hl2 : (init ++ [(r, v1)]).length = init.length + 1 := by simp
  refine ⟨inner.set (init.length * 11 + 10) v1, ⟨by rw [List.length_set, hl2, hsz]; exact hlen, .inr ⟨b, cap, cur.setIfInBounds (init.length * 11 + 10) v1, by rw [hl2], hb0, by simp [World.setCell, Array.getElem?_modify, hb], by rw [hl2]; exact hnc, hcm, by simpa [hsz] using hcs, ?_⟩⟩, hF, ?_⟩
  · rw [hl2, hsz, Array.toList_setIfInBounds, List.take_set, htk]
  · rw [hset]
    refine Reps.append (ys := [(r, v1)]) ⟨by rw [List.length_take, hsz]; omega, fun j x hx => ?_⟩ (Reps.single ⟨c0, rfl, h1, ruleR.move (fun k hk hl => ?_) hrep⟩ (by simp [hc0l, hsz]))
    · have hj : j < init.length := (List.getElem?_eq_some_iff.1 hx).1
      have h2 := hr.2 j x (by rw [List.getElem?_append_left hj]; exact hx)
      rw [hsz, List.drop_take, List.take_take, Nat.min_eq_left (by omega)]
      exact (levR B).move hmove h2
    · obtain ⟨h3, h4, h5⟩ := hmove k hk.1 hl
      exact ⟨⟨h3, hk.2⟩, h4, h5⟩
theorem int_own_to {e : Nat} {w : World} {F G : Nat → Prop} {v : Value} {xs : List Int} (h : intRS.own e w F v xs) (hG : ∀ k, v.ownBlock = some k → G k) : intRS.own e w G v xs := by
  obtain ⟨inner, ho, hF, hr⟩ := h
  exact ⟨inner, ho, hG, hr⟩
theorem int_own_upd {e : Nat} {w w1 : World} {F S : Nat → Prop} {v : Value} {xs : List Int} (h : intRS.own e w F v xs) (hu : Upd S w w1) (hs : ∀ k, v.ownBlock = some k → ¬ S k) : intRS.own e w1 F v xs :=
  int_own_to (Rp.own_upd (int_own_to h (fun k hk => hk)) hu (fun k _ hk => hs k hk)) (fun k hk => (Rp.own_block_lt h k hk).1)
/-- What is open: b is its block; each level's word is a row of its own. -/
structure Opn (w0 : World) (b cap : Nat) (rs : List ((Spec × Ex) × Value)) (ws : List (List Int)) (wr : World) : Prop where
  own : (levR w0.heap.size).own 99 wr (fun k => k < w0.heap.size ∨ k = b) (.slice (some ⟨b, 0, none⟩) rs.length cap) rs
  ge : w0.heap.size ≤ b
  len : ws.length = rs.length
  word : ∀ (j : Nat) (r : Spec × Ex) (v : Value) (wd : List Int), rs[j]? = some (r, v) → ws[j]? = some wd → intRS.own 3 wr (fun k => w0.heap.size ≤ k ∧ k ≠ b) v wd
  apart : ∀ (i j : Nat) (r s : Spec × Ex) (u v : Value) (k : Nat), i ≠ j → rs[i]? = some (r, u) → rs[j]? = some (s, v) → u.ownBlock = some k → v.ownBlock ≠ some k
  up : Pure w0 wr
namespace Opn
variable {w0 wr w1 : World} {b cap : Nat} {rs init : List ((Spec × Ex) × Value)} {ws wi : List (List Int)} {r : Spec × Ex} {v v1 : Value} {wd : List Int}
theorem blt (h : Opn w0 b cap rs ws wr) : b < wr.heap.size := (Rp.own_block_lt h.own b rfl).2
theorem frozen (h : Opn w0 b cap rs ws wr) (i : Nat) : wr.frozen? ⟨b, i, none⟩ = false := by
  obtain ⟨inner, ⟨_, ho⟩, _, _⟩ := h.own
  rcases ho with ⟨h, _⟩ | ⟨g, cap', cur, hv, hb0, hb, _⟩
  · cases h
  simp only [Value.slice.injEq, Option.some.injEq, Addr.mk.injEq] at hv
  obtain ⟨⟨rfl, _⟩, _⟩ := hv
  simp [World.frozen?, hb]
theorem pure (h : Opn w0 b cap rs ws wr) (hu : Pure wr w1) : Opn w0 b cap rs ws w1 :=
  ⟨Rp.own_upd h.own hu (fun _ _ _ h => h), h.ge, h.len, fun j r v wd h1 h2 => Rp.own_upd (h.word j r v wd h1 h2) hu (fun _ _ _ h => h), h.apart, h.up.trans hu (fun _ _ h => h)⟩
/-- The cells of a level. -/
theorem lev (h : Opn w0 b cap rs ws wr) {j : Nat} {x : Spec} {e : Ex} (hx : rs[j]? = some ((x, e), v)) :
    ∃ A1 c1, wr.cell? ⟨b, j * 11 + 3, none⟩ = some (.int .i64 x.marks) ∧ wr.cell? ⟨b, j * 11 + 6, none⟩ = some (.bool x.lines) ∧ wr.cell? ⟨b, j * 11 + 7, none⟩ = some (.int .i64 e.k) ∧ wr.cell? ⟨b, j * 11 + 8, none⟩ = some (.string e.name) ∧ wr.cell? ⟨b, j * 11 + 9, none⟩ = some (.slice A1 e.l.length c1) ∧ wr.cell? ⟨b, j * 11 + 10, none⟩ = some v ∧ e.l.length ≤ c1 ∧ exR.row wr (fun k => k < w0.heap.size) A1 e.l := by
  obtain ⟨A, c, hv, _, hrow⟩ := Rp.own_slice h.own
  obtain ⟨b', o, cs, hA, hF, hb, hr, hc⟩ := Rp.row_at hrow hx
  simp only [Value.slice.injEq] at hv
  obtain ⟨rfl, _, rfl⟩ := hv
  simp only [Option.some.injEq, Addr.mk.injEq] at hA
  obtain ⟨rfl, rfl, _⟩ := hA
  obtain ⟨c0, rfl, _, hr0⟩ := hr
  obtain ⟨A1, c1, rfl, hle, hex⟩ := rule_rep hr0
  simp only [Nat.zero_add] at hc
  exact ⟨A1, c1, hc 3 _ rfl, hc 6 _ rfl, hc 7 _ rfl, hc 8 _ rfl, hc 9 _ rfl, hc 10 _ rfl, hle, Rp.row_fp hex (fun k hk => hk.2)⟩
theorem room (h : Opn w0 b cap rs ws wr) : rs.length ≤ cap := by
  obtain ⟨A, c, hv, hle, _⟩ := Rp.own_slice h.own
  simp only [Value.slice.injEq] at hv
  omega
theorem take (h : Opn w0 b cap (init ++ [(r, v)]) (wi ++ [wd]) wr) : Opn w0 b cap init wi wr := by
  have hl := h.len
  simp only [List.length_append, List.length_singleton] at hl
  have ho := Rp.own_take h.own init.length (by simp)
  rw [List.take_left'] at ho
  · refine ⟨ho, h.ge, by omega, fun j r v wd h1 h2 => h.word j r v wd ?_ ?_, fun i j r s u v k hij h1 h2 => h.apart i j r s u v k hij ?_ ?_, h.up⟩
    · rw [List.getElem?_append_left (List.getElem?_eq_some_iff.1 h1).1]; exact h1
    · rw [List.getElem?_append_left (List.getElem?_eq_some_iff.1 h2).1]; exact h2
    · rw [List.getElem?_append_left (List.getElem?_eq_some_iff.1 h1).1]; exact h1
    · rw [List.getElem?_append_left (List.getElem?_eq_some_iff.1 h2).1]; exact h2
  · rfl
theorem top (h : Opn w0 b cap (init ++ [(r, v)]) (wi ++ [wd]) wr) : intRS.own 3 wr (fun k => w0.heap.size ≤ k ∧ k ≠ b) v wd := by
  have hl := h.len
  simp only [List.length_append, List.length_singleton] at hl
  exact h.word init.length r v wd (by simp) (by rw [show init.length = wi.length by omega]; simp)
/-- The top's word has grown. -/
theorem grow (h : Opn w0 b cap (init ++ [(r, v)]) (wi ++ [wd]) wr) {wd1 : List Int} {F : Nat → Prop} (h2 : intRS.own 3 w1 F v1 wd1) (hF : ∀ k, v1.ownBlock = some k → w0.heap.size ≤ k ∧ k ≠ b) (hu : Upd (fun k => v.ownBlock = some k) wr w1) (hat : v1.ownBlock = v.ownBlock ∨ ∃ q, v1.ownBlock = some q ∧ wr.heap.size ≤ q) : Opn w0 b cap (init ++ [(r, v1)]) (wi ++ [wd1]) (w1.setCell ⟨b, init.length * 11 + 10, none⟩ v1) := by
  have hl := h.len
  simp only [List.length_append, List.length_singleton] at hl
  have htop := h.top
  have hblt := h.blt
  have hn : ∀ k, v.ownBlock = some k → w0.heap.size ≤ k ∧ k ≠ b := fun k hk => (Rp.own_block_lt htop k hk).1
  have ho1 := Rp.own_upd h.own hu (fun k _ hk hs => by
    have := hn k hs
    rcases hk with hk | hk
    · omega
    · exact this.2 hk)
  rw [show (init ++ [(r, v)]).length = init.length + 1 by simp] at ho1
  have h1 : v1.oneCell' = true := by
    obtain ⟨A, c, rfl, _⟩ := Rp.own_slice h2
    rfl
  have ho2 := own_set_last ho1 h1
  have hold : ∀ j, j < init.length → (init ++ [(r, v1)])[j]? = (init ++ [(r, v)])[j]? := fun j hj => by rw [List.getElem?_append_left hj, List.getElem?_append_left hj]
  have hap : ∀ (j : Nat) (s : Spec × Ex) (u : Value) (k : Nat), (init ++ [(r, v)])[j]? = some (s, u) → j < init.length → u.ownBlock = some k → v1.ownBlock ≠ some k := by
    intro j s u k hx hj hk hk1
    rcases hat with e | ⟨q, hq, hqs⟩
    · rw [e] at hk1
      exact h.apart j init.length s r u v k (by omega) hx (by simp) hk hk1
    · rw [hq] at hk1
      injection hk1 with e
      subst e
      obtain ⟨wdj, hwd⟩ : ∃ wdj, (wi ++ [wd])[j]? = some wdj := ⟨_, List.getElem?_eq_getElem (by simp; omega)⟩
      have := (Rp.own_block_lt (h.word j s u wdj hx hwd) q hk).2
      omega
  refine ⟨by rw [show (init ++ [(r, v1)]).length = init.length + 1 by simp]; exact ho2, h.ge, by simp; omega, fun j s u wdj hx hwd => ?_, fun i j s t u x k hij hi hj hk => ?_, (h.up.trans hu (fun k hk e => ?_)).setCell (fun hq => ?_) _⟩
  · rcases Nat.lt_or_ge j init.length with hj | hj
    · rw [hold j hj] at hx
      rw [List.getElem?_append_left (by omega)] at hwd
      have hw := h.word j s u wdj hx (by rw [List.getElem?_append_left (by omega)]; exact hwd)
      refine int_own_upd (int_own_upd hw hu (fun k hk e => ?_)) (Upd.setCell1 (S := fun q => q = b) w1 rfl v1) (fun k hk e => ?_)
      · exact h.apart j init.length s r u v k (by omega) hx (by simp) hk e
      · exact (Rp.own_block_lt hw k hk).1.2 e
    · obtain rfl : j = init.length := by
        have := (List.getElem?_eq_some_iff.1 hx).1
        simp at this
        omega
      simp at hx
      obtain ⟨rfl, rfl⟩ := hx
      rw [show init.length = wi.length by omega] at hwd
      simp at hwd
      subst hwd
      exact int_own_upd (int_own_to h2 hF) (Upd.setCell1 (S := fun q => q = b) w1 rfl v1) (fun k hk e => (hF k hk).2 e)
  · have hi1 : i < init.length + 1 := by have := (List.getElem?_eq_some_iff.1 hi).1; simpa using this
    have hj1 : j < init.length + 1 := by have := (List.getElem?_eq_some_iff.1 hj).1; simpa using this
    rcases Nat.lt_or_ge i init.length with hil | hil
    · rw [hold i hil] at hi
      rcases Nat.lt_or_ge j init.length with hjl | hjl
      · rw [hold j hjl] at hj
        exact h.apart i j s t u x k hij hi hj hk
      · obtain rfl : j = init.length := by omega
        simp at hj
        obtain ⟨rfl, rfl⟩ := hj
        exact hap i s u k hi hil hk
    · obtain rfl : i = init.length := by omega
      simp at hi
      obtain ⟨rfl, rfl⟩ := hi
      rw [hold j (by omega)] at hj
      exact fun e => hap j t x k hj (by omega) e hk
  · have := (hn k e).1
    omega
  · have := h.ge
    simp at hq
    omega
/-- One more is open. -/
theorem push (h : Opn w0 b cap rs ws wr) (ho : (levR w0.heap.size).own 99 w1 (fun k => ((k < w0.heap.size ∨ k = b) ∧ some k ≠ some b) ∨ (k < w0.heap.size ∧ k < wr.heap.size) ∨ v1.ownBlock = some k) v1 (rs ++ [(r, .slice none 0 0)])) (hu : Upd (fun k => some b = some k) wr w1) (hat : v1.ownBlock = some b ∨ ∃ q, v1.ownBlock = some q ∧ wr.heap.size < q) :
    ∃ b1 cap1, v1 = .slice (some ⟨b1, 0, none⟩) (rs.length + 1) cap1 ∧ Opn w0 b1 cap1 (rs ++ [(r, .slice none 0 0)]) (ws ++ [[]]) w1 := by
  have hblt := h.blt
  have hge := h.ge
  have hwr := h.up.size
  have hl := h.len
  obtain ⟨q, hq, hqb⟩ : ∃ q, v1.ownBlock = some q ∧ (q = b ∨ wr.heap.size < q) := by
    rcases hat with e | ⟨q, hq, hqs⟩
    · exact ⟨b, e, .inl rfl⟩
    · exact ⟨q, hq, .inr hqs⟩
  have hv : ∃ cap1, v1 = .slice (some ⟨q, 0, none⟩) (rs.length + 1) cap1 := by
    obtain ⟨inner, ⟨_, ho1⟩, _, _⟩ := ho
    rcases ho1 with ⟨rfl, hz⟩ | ⟨g, cap', cur, rfl, _⟩
    · cases hq
    · have e : g = q := by simpa [Value.ownBlock] using hq
      subst e
      exact ⟨cap', by simp⟩
  obtain ⟨cap1, rfl⟩ := hv
  refine ⟨q, cap1, rfl, ⟨?_, by omega, by simp; omega, fun j s u wdj hx hwd => ?_, fun i j s t u x k hij hi hj hk => ?_, h.up.trans hu (fun k hk e => ?_)⟩⟩
  · rw [show (rs ++ [(r, (.slice none 0 0 : Value))]).length = rs.length + 1 by simp]
    refine Rp.own_fp ho (fun k hk => ?_)
    rcases hk with ⟨hk, hk2⟩ | hk | hk
    · rcases hk with hk | hk
      · exact .inl hk
      · exact absurd (by rw [hk]) hk2
    · exact .inl hk.1
    · injection hk with hk
      exact .inr hk.symm
  · rcases Nat.lt_or_ge j rs.length with hj | hj
    · rw [List.getElem?_append_left hj] at hx
      rw [List.getElem?_append_left (by omega)] at hwd
      have hw := h.word j s u wdj hx hwd
      refine int_own_to (int_own_upd hw hu (fun k hk e => ?_)) (fun k hk => ?_)
      · injection e with e
        exact (Rp.own_block_lt hw k hk).1.2 e.symm
      · have := Rp.own_block_lt hw k hk
        exact ⟨this.1.1, by omega⟩
    · obtain rfl : j = rs.length := by
        have := (List.getElem?_eq_some_iff.1 hx).1
        simp at this
        omega
      simp at hx
      obtain ⟨rfl, rfl⟩ := hx
      rw [show rs.length = ws.length by omega] at hwd
      simp at hwd
      subst hwd
      exact Rp.own_nil _ _ _ _
  · rcases Nat.lt_or_ge i rs.length with hil | hil
    · rw [List.getElem?_append_left hil] at hi
      rcases Nat.lt_or_ge j rs.length with hjl | hjl
      · rw [List.getElem?_append_left hjl] at hj
        exact h.apart i j s t u x k hij hi hj hk
      · obtain rfl : j = rs.length := by
          have := (List.getElem?_eq_some_iff.1 hj).1
          simp at this
          omega
        simp at hj
        obtain ⟨rfl, rfl⟩ := hj
        exact fun e => by cases e
    · obtain rfl : i = rs.length := by
        have := (List.getElem?_eq_some_iff.1 hi).1
        simp at this
        omega
      simp at hi
      obtain ⟨rfl, rfl⟩ := hi
      cases hk
  · injection e with e
    omega
/-- The whole is open. -/
theorem start {A1 : Option Addr} {c1 : Nat} {x : Spec} {e : Ex} (hu : Pure w0 wr) (hl : e.l.length ≤ c1) (hx : exR.row wr (fun k => k < w0.heap.size) A1 e.l) :
    Opn w0 wr.heap.size 1 [((x, e), .slice none 0 0)] [[]] (wr.alloc (.cells (x.cs ++ [Value.int .i64 e.k, Value.string e.name, Value.slice A1 e.l.length c1] ++ [Value.slice none 0 0]).toArray 99)) := by
  have hz := hu.size
  refine ⟨Rp.own_lit (levR w0.heap.size) (Fp := fun k => k < w0.heap.size) ((x, e), (.slice none 0 0 : Value)) _ ⟨_, rfl, rfl, ruleR.move (fun k hk hl => ⟨⟨hk, hk⟩, hl, rfl⟩) (rep_rule hl hx)⟩ (fun k hk _ => .inl hk) (.inr rfl), hz, rfl, fun j s u wdj h1 h2 => ?_, fun i j s t u x k hij hi hj hk => ?_, hu.alloc _⟩
  · have hj : j < 1 := (List.getElem?_eq_some_iff.1 h1).1
    obtain rfl : j = 0 := by omega
    simp at h1 h2
    obtain ⟨rfl, rfl⟩ := h1
    subst h2
    exact Rp.own_nil _ _ _ _
  · have h1 : i < 1 := (List.getElem?_eq_some_iff.1 hi).1
    have h2 : j < 1 := (List.getElem?_eq_some_iff.1 hj).1
    omega
end Opn
end Go.Proofs.YtofjodppljnlaaaGreatDoor
namespace Go.Proofs.YtofjodppljnlaaaGreatDoor
open Go.RowKit
set_option linter.unusedVariables false
set_option linter.unusedSimpArgs false
def mayB (s : Spec) (x : Tok) : Bool := decide (x.n ≥ s.least) && decide (x.n ≤ s.most) && (s.leaf == decide (x.k = 3))
set_option maxRecDepth 100000 in
set_option maxHeartbeats 4000000 in
theorem may_in {w : World} {cb : Nat} {rs : List (Spec × Ex)} {gs : List Grp} {V : Value} (h : SchR w cb rs gs) (hl : rs.length ≤ 1000) {k n m : Int} {j : Nat} {x : Spec} {e : Ex} (hx : rs[j]? = some (x, e)) (hj : 1 ≤ j) (hk : k ≠ 0) : Calls Tryz.prog 67 #[V, .pointer (some ⟨cb, 0, none⟩), .agg #[.int .i64 k, .int .i64 j, .int .i64 n, .int .i64 m]] w fun r w' => r = .returned (.bool (mayB x ⟨k, j, n, m⟩)) ∧ Pure w w' := by
  have HS := As.mk (fun W (hu : Pure w W) => Spec_in (h.pure hu) hx hj hl)
  have t1 : (k == 0) = false := by simpa using hk
  have HT := As.mk ((Upd.alloc1 (fun _ => False) w (.cells #[.int .i64 k, .int .i64 j, .int .i64 n, .int .i64 m] 71)))
  have HTB := As.mk (heap_alloc_new w (.cells #[.int .i64 k, .int .i64 j, .int .i64 n, .int .i64 m] 71))
  have HV := As.mk (show mayB x ⟨k, j, n, m⟩ = (decide (n ≥ x.least) && decide (n ≤ x.most) && (x.leaf == decide (k = 3))) from rfl)
  clear h hx hk
  go_enter Tryz.func67, Tryz.ntmps67
  go_wp2_with (go_at_call 73; refine (HS.out _ HT.out).mono ?_; rintro r w1 ⟨rfl, hu⟩; have HU := As.mk hu; clear hu; apply As.out)
  refine ⟨?_⟩
  have hb := (HU.out.block w.heap.size (by simp) (fun h => h)).trans HTB.out
  have q0 : w1.cell? ⟨w.heap.size, 0, none⟩ = some (.int .i64 k) := by unfold World.cell?; simp only [hb]; rfl
  have q2 : w1.cell? ⟨w.heap.size, 2, none⟩ = some (.int .i64 n) := by unfold World.cell?; simp only [hb]; rfl
  have hbl : w.heap.size < w1.heap.size := (Array.getElem?_eq_some_iff.1 hb).1
  have HPW := As.mk (show Pure w w1 from HT.out.trans HU.out (fun _ _ h => h))
  clear hb
  cases b1 : decide (n ≥ x.least) <;> cases b2 : decide (n ≤ x.most) <;> cases b3 : x.leaf <;> cases b4 : decide (k = 3)
  all_goals
    rw [b1, b2, b3, b4] at HV
    have b5 := b1
    have b6 := b2
    simp only [ge_iff_le] at b5
    have b7 : (k == 3) = decide (k = 3) := rfl
    rw [b4] at b7
    go_wp2
    go_ret
    exact ⟨ret_bool (by rw [HV.out]; rfl), HPW.out.alloc _⟩
set_option maxRecDepth 100000 in
set_option maxHeartbeats 4000000 in
theorem may_out {w : World} {cb : Nat} {rs : List (Spec × Ex)} {gs : List Grp} {V : Value} (h : SchR w cb rs gs) (hne : rs ≠ []) (hl : rs.length ≤ 1000) {k t n m : Int} (ht : t < 1 ∨ (rs.length : Int) ≤ t) (hk : k ≠ 0) : Calls Tryz.prog 67 #[V, .pointer (some ⟨cb, 0, none⟩), .agg #[.int .i64 k, .int .i64 t, .int .i64 n, .int .i64 m]] w fun r w' => r = .returned (.bool false) ∧ Pure w w' := by
  have HS := As.mk (fun W (hu : Pure w W) => (by
    by_cases h1 : t < 1
    · exact Spec_low (h.pure hu) hne hl h1
    · exact Spec_high (h.pure hu) hne hl (by omega) (by omega) : Calls Tryz.prog 73 #[.pointer (some ⟨cb, 0, none⟩), .int .i64 t] W fun r w' => r = .returned (.tuple #[zeroSpec.val, .bool false]) ∧ Pure W w'))
  have t1 : (k == 0) = false := by simpa using hk
  have HT := As.mk ((Upd.alloc1 (fun _ => False) w (.cells #[.int .i64 k, .int .i64 t, .int .i64 n, .int .i64 m] 71)))
  clear h ht hk
  go_enter Tryz.func67, Tryz.ntmps67
  go_wp2_with (go_at_call 73; refine (HS.out _ HT.out).mono ?_; rintro r w1 ⟨rfl, hu⟩; have HU := As.mk hu; clear hu)
  go_ret
  exact ⟨rfl, (HT.out.trans HU.out (fun _ _ h => h)).alloc _⟩
end Go.Proofs.YtofjodppljnlaaaGreatDoor
namespace Go.Proofs.YtofjodppljnlaaaGreatDoor
open Go.RowKit
set_option linter.unusedVariables false
set_option linter.unusedSimpArgs false
def marksIn (m marks : Int) : Bool := decide (bits .andNot .i64 m marks = 0)
def runeB (x : Spec) (n m : Int) : Bool := marksIn m x.marks && (!decide (n = 10) || x.lines)
set_option maxRecDepth 100000 in
set_option maxHeartbeats 4000000 in
theorem may_rune_a {w : World} {c : Value} {b o : Nat} {marks : Int} {lines : Bool} (hb : b < w.heap.size) (h3 : w.cell? ⟨b, o + 3, none⟩ = some (.int .i64 marks)) (h6 : w.cell? ⟨b, o + 6, none⟩ = some (.bool lines)) {t n m : Int} (hm : marksIn m marks = false) : Calls Tryz.prog 67 #[.pointer (some ⟨b, o, none⟩), c, .agg #[.int .i64 0, .int .i64 t, .int .i64 n, .int .i64 m]] w fun r w' => r = .returned (.bool false) ∧ Pure w w' := by
  obtain ⟨W, hW⟩ : ∃ W, W = w.alloc (.cells #[.int .i64 0, .int .i64 t, .int .i64 n, .int .i64 m] 71) := ⟨_, rfl⟩
  have HPW := As.mk (show Pure w W from hW ▸ Upd.alloc1 _ _ _)
  have hWb : W.heap[w.heap.size]? = some (.cells #[.int .i64 0, .int .i64 t, .int .i64 n, .int .i64 m] 71) := hW ▸ heap_alloc_new w _
  have HSK : As (∀ v, Upd (fun _ => False) W v → v.cell? ⟨b, o + 3, none⟩ = some (.int .i64 marks) ∧ v.cell? ⟨b, o + 6, none⟩ = some (.bool lines) ∧ v.cell? ⟨w.heap.size, 2, none⟩ = some (.int .i64 n) ∧ v.cell? ⟨w.heap.size, 3, none⟩ = some (.int .i64 m)) := ⟨by
    intro v hu
    have hu2 := HPW.out.trans hu (fun _ _ h => h)
    have hbk := (hu.block w.heap.size (Array.getElem?_eq_some_iff.1 hWb).1 (fun h => h)).trans hWb
    refine ⟨(hu2.cell hb (fun h => h)).trans h3, (hu2.cell hb (fun h => h)).trans h6, ?_, ?_⟩ <;> (unfold World.cell?; simp only [hbk]; rfl)⟩
  have hz : ¬ bits .andNot .i64 m marks = 0 := by simpa [marksIn] using hm
  have hz1 : (bits .andNot .i64 m marks == 0) = false := by simpa using hz
  have hz2 : decide (bits .andNot .i64 m marks = 0) = false := by simpa using hz
  clear hz
  clear hm
  clear h3 h6 hWb
  go_enter Tryz.func67, Tryz.ntmps67
  go_wp2
  rw [← hW]
  clear hW
  refine wp_region_T (P := Tryz.prog) (fun v => v.cell? ⟨b, o + 3, none⟩ = some (.int .i64 marks) ∧ v.cell? ⟨b, o + 6, none⟩ = some (.bool lines) ∧ v.cell? ⟨w.heap.size, 2, none⟩ = some (.int .i64 n) ∧ v.cell? ⟨w.heap.size, 3, none⟩ = some (.int .i64 m)) 23 (by kernel_rfl) ?_ (fun hHeld => ?_)
  · exact HSK.out _ ((Upd.refl _ _).drew)
  refine zT 0 ?_
  refine zT 1 ?_
  refine zT 2 ?_
  refine zT 3 ?_
  (try simp only [Act.put, sA, sB, sC])
  refine zT 4 ?_
  refine zT 5 ?_
  refine zT 6 ?_
  refine zT 7 ?_
  (try simp only [Act.put, sA, sB, sC])
  refine zT 8 ?_
  refine zT 9 ?_
  refine zT 10 ?_
  refine wpAnyT_take (i := 11) (oi := { dst := (some 23), op := (Go.Op.fieldAddr 71 (Go.Operand.tmp 5) 2), type := 0, pos := "schema.go:115", after := #[{ on := 10, ground := Go.Ground.guard }], guard := (some (10, true)) }) (v := undef) rfl (by kernel_rfl) (by kernel_rfl) (by kernel_rfl) (by kernel_rfl) (fun _ _ _ h => h) (Or.inr ⟨by rfl, rfl⟩) (by assumption) ?_
  (try simp only [Act.put, sA, sB, sC])
  refine wpAnyT_take (i := 12) (oi := { dst := (some 24), op := (Go.Op.load 3 (Go.Operand.tmp 23)), type := 3, pos := "schema.go:115", after := #[{ on := 11, ground := Go.Ground.data }, { on := 10, ground := Go.Ground.guard }], guard := (some (10, true)) }) (v := undef) rfl (by kernel_rfl) (by kernel_rfl) (by kernel_rfl) (by kernel_rfl) (fun _ _ _ h => h) (Or.inr ⟨by rfl, rfl⟩) (by assumption) ?_
  (try simp only [Act.put, sA, sB, sC])
  refine wpAnyT_take (i := 13) (oi := { dst := (some 25), op := (Go.Op.binOp Go.BinOp.neq 3 (Go.Operand.tmp 24) (Go.Operand.const (Go.Value.int Go.IntKind.i64 10)) 3), type := 4, pos := "schema.go:115", after := #[{ on := 12, ground := Go.Ground.data }, { on := 10, ground := Go.Ground.guard }], guard := (some (10, true)) }) (v := undef) rfl (by kernel_rfl) (by kernel_rfl) (by kernel_rfl) (by kernel_rfl) (fun _ _ _ h => h) (Or.inr ⟨by rfl, rfl⟩) (by assumption) ?_
  (try simp only [Act.put, sA, sB, sC])
  refine wpAnyT_take (i := 14) (oi := { dst := (some 26), op := (Go.Op.move (Go.Operand.tmp 25)), type := 4, pos := "schema.go:115", after := #[{ on := 13, ground := Go.Ground.data }, { on := 10, ground := Go.Ground.chain }, { on := 10, ground := Go.Ground.guard }], guard := (some (10, true)) }) (v := undef) rfl (by kernel_rfl) (by kernel_rfl) (by kernel_rfl) (by kernel_rfl) (fun _ _ _ h => h) (Or.inr ⟨by rfl, rfl⟩) (by assumption) ?_
  (try simp only [Act.put, sA, sB, sC])
  refine wpAnyT_take (i := 15) (oi := { dst := (some 27), op := (Go.Op.move (Go.Operand.tmp 0)), type := 101, pos := "schema.go:115", after := #[{ on := 14, ground := Go.Ground.guard }], guard := (some (14, false)) }) (v := undef) rfl (by kernel_rfl) (by kernel_rfl) (by kernel_rfl) (by kernel_rfl) (fun _ _ _ h => h) (Or.inr ⟨by rfl, rfl⟩) (by assumption) ?_
  (try simp only [Act.put, sA, sB, sC])
  refine wpAnyT_take (i := 16) (oi := { dst := (some 28), op := (Go.Op.nilCheck (Go.Operand.tmp 27)), type := 0, pos := "schema.go:115", after := #[{ on := 15, ground := Go.Ground.data }, { on := 14, ground := Go.Ground.guard }], guard := (some (14, false)) }) (v := undef) rfl (by kernel_rfl) (by kernel_rfl) (by kernel_rfl) (by kernel_rfl) (fun _ _ _ h => h) (Or.inr ⟨by rfl, rfl⟩) (by assumption) ?_
  (try simp only [Act.put, sA, sB, sC])
  refine wpAnyT_take (i := 17) (oi := { dst := (some 29), op := (Go.Op.fieldAddr 99 (Go.Operand.tmp 28) 0), type := 0, pos := "schema.go:115", after := #[{ on := 16, ground := Go.Ground.data }, { on := 14, ground := Go.Ground.guard }], guard := (some (14, false)) }) (v := undef) rfl (by kernel_rfl) (by kernel_rfl) (by kernel_rfl) (by kernel_rfl) (fun _ _ _ h => h) (Or.inr ⟨by rfl, rfl⟩) (by assumption) ?_
  (try simp only [Act.put, sA, sB, sC])
  refine wpAnyT_take (i := 18) (oi := { dst := (some 30), op := (Go.Op.fieldAddr 94 (Go.Operand.tmp 29) 0), type := 0, pos := "schema.go:115", after := #[{ on := 17, ground := Go.Ground.data }, { on := 14, ground := Go.Ground.guard }], guard := (some (14, false)) }) (v := undef) rfl (by kernel_rfl) (by kernel_rfl) (by kernel_rfl) (by kernel_rfl) (fun _ _ _ h => h) (Or.inr ⟨by rfl, rfl⟩) (by assumption) ?_
  (try simp only [Act.put, sA, sB, sC])
  refine wpAnyT_take (i := 19) (oi := { dst := (some 31), op := (Go.Op.fieldAddr 34 (Go.Operand.tmp 30) 6), type := 0, pos := "schema.go:115", after := #[{ on := 18, ground := Go.Ground.data }, { on := 14, ground := Go.Ground.guard }], guard := (some (14, false)) }) (v := undef) rfl (by kernel_rfl) (by kernel_rfl) (by kernel_rfl) (by kernel_rfl) (fun _ _ _ h => h) (Or.inr ⟨by rfl, rfl⟩) (by assumption) ?_
  (try simp only [Act.put, sA, sB, sC])
  refine wpAnyT_take (i := 20) (oi := { dst := (some 32), op := (Go.Op.load 4 (Go.Operand.tmp 31)), type := 4, pos := "schema.go:115", after := #[{ on := 19, ground := Go.Ground.data }, { on := 14, ground := Go.Ground.guard }], guard := (some (14, false)) }) (v := undef) rfl (by kernel_rfl) (by kernel_rfl) (by kernel_rfl) (by kernel_rfl) (fun _ _ _ h => h) (Or.inr ⟨by rfl, rfl⟩) (by assumption) ?_
  (try simp only [Act.put, sA, sB, sC])
  refine wpAnyT_take (i := 21) (oi := { dst := (some 33), op := (Go.Op.pick (Go.Operand.tmp 26) (Go.Operand.const (Go.Value.bool true)) (Go.Operand.tmp 32)), type := 4, pos := "schema.go:115", after := #[{ on := 14, ground := Go.Ground.data }, { on := 20, ground := Go.Ground.data }, { on := 10, ground := Go.Ground.guard }], guard := (some (10, true)) }) (v := undef) rfl (by kernel_rfl) (by kernel_rfl) (by kernel_rfl) (by kernel_rfl) (fun _ _ _ h => h) (Or.inr ⟨by rfl, rfl⟩) (by assumption) ?_
  (try simp only [Act.put, sA, sB, sC])
  refine zT 22 ?_
  refine oT 23 (fun K hK => ?_)
  go_simp
  refine hK.out _ _ (fun h => absurd rfl h) (fun hHeld => ?_)
  clear hK K
  (try simp only [Act.put, sA, sB, sC])
  refine wpAnyT_done (by kernel_rfl) ?_ _
  go_wp2
  go_ret
  exact ⟨rfl, HPW.out.drew⟩
set_option maxRecDepth 100000 in
set_option maxHeartbeats 4000000 in
theorem may_rune_b {w : World} {c : Value} {b o : Nat} {marks : Int} {lines : Bool} (hb : b < w.heap.size) (h3 : w.cell? ⟨b, o + 3, none⟩ = some (.int .i64 marks)) (h6 : w.cell? ⟨b, o + 6, none⟩ = some (.bool lines)) {t n m : Int} (hm : marksIn m marks = true) (hn : n ≠ 10) : Calls Tryz.prog 67 #[.pointer (some ⟨b, o, none⟩), c, .agg #[.int .i64 0, .int .i64 t, .int .i64 n, .int .i64 m]] w fun r w' => r = .returned (.bool true) ∧ Pure w w' := by
  obtain ⟨W, hW⟩ : ∃ W, W = w.alloc (.cells #[.int .i64 0, .int .i64 t, .int .i64 n, .int .i64 m] 71) := ⟨_, rfl⟩
  have HPW := As.mk (show Pure w W from hW ▸ Upd.alloc1 _ _ _)
  have hWb : W.heap[w.heap.size]? = some (.cells #[.int .i64 0, .int .i64 t, .int .i64 n, .int .i64 m] 71) := hW ▸ heap_alloc_new w _
  have HSK : As (∀ v, Upd (fun _ => False) W v → v.cell? ⟨b, o + 3, none⟩ = some (.int .i64 marks) ∧ v.cell? ⟨b, o + 6, none⟩ = some (.bool lines) ∧ v.cell? ⟨w.heap.size, 2, none⟩ = some (.int .i64 n) ∧ v.cell? ⟨w.heap.size, 3, none⟩ = some (.int .i64 m)) := ⟨by
    intro v hu
    have hu2 := HPW.out.trans hu (fun _ _ h => h)
    have hbk := (hu.block w.heap.size (Array.getElem?_eq_some_iff.1 hWb).1 (fun h => h)).trans hWb
    refine ⟨(hu2.cell hb (fun h => h)).trans h3, (hu2.cell hb (fun h => h)).trans h6, ?_, ?_⟩ <;> (unfold World.cell?; simp only [hbk]; rfl)⟩
  have hz : bits .andNot .i64 m marks = 0 := by simpa [marksIn] using hm
  have hz1 : (bits .andNot .i64 m marks == 0) = true := by simpa using hz
  have hz2 : decide (bits .andNot .i64 m marks = 0) = true := by simpa using hz
  clear hz
  have t1 : (n == 10) = false := by simpa using hn
  have t2 : (n != 10) = true := by simpa using hn
  clear hm
  clear h3 h6 hWb
  go_enter Tryz.func67, Tryz.ntmps67
  go_wp2
  rw [← hW]
  clear hW
  refine wp_region_T (P := Tryz.prog) (fun v => v.cell? ⟨b, o + 3, none⟩ = some (.int .i64 marks) ∧ v.cell? ⟨b, o + 6, none⟩ = some (.bool lines) ∧ v.cell? ⟨w.heap.size, 2, none⟩ = some (.int .i64 n) ∧ v.cell? ⟨w.heap.size, 3, none⟩ = some (.int .i64 m)) 23 (by kernel_rfl) ?_ (fun hHeld => ?_)
  · exact HSK.out _ ((Upd.refl _ _).drew)
  refine zT 0 ?_
  refine zT 1 ?_
  refine zT 2 ?_
  refine zT 3 ?_
  (try simp only [Act.put, sA, sB, sC])
  refine zT 4 ?_
  refine zT 5 ?_
  refine zT 6 ?_
  refine zT 7 ?_
  (try simp only [Act.put, sA, sB, sC])
  refine zT 8 ?_
  refine zT 9 ?_
  refine zT 10 ?_
  refine zT 11 ?_
  (try simp only [Act.put, sA, sB, sC])
  refine zT 12 ?_
  refine zT 13 ?_
  refine zT 14 ?_
  refine wpAnyT_take (i := 15) (oi := { dst := (some 27), op := (Go.Op.move (Go.Operand.tmp 0)), type := 101, pos := "schema.go:115", after := #[{ on := 14, ground := Go.Ground.guard }], guard := (some (14, false)) }) (v := undef) rfl (by kernel_rfl) (by kernel_rfl) (by kernel_rfl) (by kernel_rfl) (fun _ _ _ h => h) (Or.inr ⟨by rfl, rfl⟩) (by assumption) ?_
  (try simp only [Act.put, sA, sB, sC])
  refine wpAnyT_take (i := 16) (oi := { dst := (some 28), op := (Go.Op.nilCheck (Go.Operand.tmp 27)), type := 0, pos := "schema.go:115", after := #[{ on := 15, ground := Go.Ground.data }, { on := 14, ground := Go.Ground.guard }], guard := (some (14, false)) }) (v := undef) rfl (by kernel_rfl) (by kernel_rfl) (by kernel_rfl) (by kernel_rfl) (fun _ _ _ h => h) (Or.inr ⟨by rfl, rfl⟩) (by assumption) ?_
  (try simp only [Act.put, sA, sB, sC])
  refine wpAnyT_take (i := 17) (oi := { dst := (some 29), op := (Go.Op.fieldAddr 99 (Go.Operand.tmp 28) 0), type := 0, pos := "schema.go:115", after := #[{ on := 16, ground := Go.Ground.data }, { on := 14, ground := Go.Ground.guard }], guard := (some (14, false)) }) (v := undef) rfl (by kernel_rfl) (by kernel_rfl) (by kernel_rfl) (by kernel_rfl) (fun _ _ _ h => h) (Or.inr ⟨by rfl, rfl⟩) (by assumption) ?_
  (try simp only [Act.put, sA, sB, sC])
  refine wpAnyT_take (i := 18) (oi := { dst := (some 30), op := (Go.Op.fieldAddr 94 (Go.Operand.tmp 29) 0), type := 0, pos := "schema.go:115", after := #[{ on := 17, ground := Go.Ground.data }, { on := 14, ground := Go.Ground.guard }], guard := (some (14, false)) }) (v := undef) rfl (by kernel_rfl) (by kernel_rfl) (by kernel_rfl) (by kernel_rfl) (fun _ _ _ h => h) (Or.inr ⟨by rfl, rfl⟩) (by assumption) ?_
  (try simp only [Act.put, sA, sB, sC])
  refine wpAnyT_take (i := 19) (oi := { dst := (some 31), op := (Go.Op.fieldAddr 34 (Go.Operand.tmp 30) 6), type := 0, pos := "schema.go:115", after := #[{ on := 18, ground := Go.Ground.data }, { on := 14, ground := Go.Ground.guard }], guard := (some (14, false)) }) (v := undef) rfl (by kernel_rfl) (by kernel_rfl) (by kernel_rfl) (by kernel_rfl) (fun _ _ _ h => h) (Or.inr ⟨by rfl, rfl⟩) (by assumption) ?_
  (try simp only [Act.put, sA, sB, sC])
  refine wpAnyT_take (i := 20) (oi := { dst := (some 32), op := (Go.Op.load 4 (Go.Operand.tmp 31)), type := 4, pos := "schema.go:115", after := #[{ on := 19, ground := Go.Ground.data }, { on := 14, ground := Go.Ground.guard }], guard := (some (14, false)) }) (v := undef) rfl (by kernel_rfl) (by kernel_rfl) (by kernel_rfl) (by kernel_rfl) (fun _ _ _ h => h) (Or.inr ⟨by rfl, rfl⟩) (by assumption) ?_
  (try simp only [Act.put, sA, sB, sC])
  refine zT 21 ?_
  refine zT 22 ?_
  refine oT 23 (fun K hK => ?_)
  go_simp
  refine hK.out _ _ (fun h => absurd rfl h) (fun hHeld => ?_)
  clear hK K
  (try simp only [Act.put, sA, sB, sC])
  refine wpAnyT_done (by kernel_rfl) ?_ _
  go_wp2
  go_ret
  exact ⟨rfl, HPW.out.drew⟩
set_option maxRecDepth 100000 in
set_option maxHeartbeats 4000000 in
theorem may_rune_c {w : World} {c : Value} {b o : Nat} {marks : Int} {lines : Bool} (hb : b < w.heap.size) (h3 : w.cell? ⟨b, o + 3, none⟩ = some (.int .i64 marks)) (h6 : w.cell? ⟨b, o + 6, none⟩ = some (.bool lines)) {t n m : Int} (hm : marksIn m marks = true) (hn : n = 10) : Calls Tryz.prog 67 #[.pointer (some ⟨b, o, none⟩), c, .agg #[.int .i64 0, .int .i64 t, .int .i64 n, .int .i64 m]] w fun r w' => r = .returned (.bool lines) ∧ Pure w w' := by
  obtain ⟨W, hW⟩ : ∃ W, W = w.alloc (.cells #[.int .i64 0, .int .i64 t, .int .i64 n, .int .i64 m] 71) := ⟨_, rfl⟩
  have HPW := As.mk (show Pure w W from hW ▸ Upd.alloc1 _ _ _)
  have hWb : W.heap[w.heap.size]? = some (.cells #[.int .i64 0, .int .i64 t, .int .i64 n, .int .i64 m] 71) := hW ▸ heap_alloc_new w _
  have HSK : As (∀ v, Upd (fun _ => False) W v → v.cell? ⟨b, o + 3, none⟩ = some (.int .i64 marks) ∧ v.cell? ⟨b, o + 6, none⟩ = some (.bool lines) ∧ v.cell? ⟨w.heap.size, 2, none⟩ = some (.int .i64 n) ∧ v.cell? ⟨w.heap.size, 3, none⟩ = some (.int .i64 m)) := ⟨by
    intro v hu
    have hu2 := HPW.out.trans hu (fun _ _ h => h)
    have hbk := (hu.block w.heap.size (Array.getElem?_eq_some_iff.1 hWb).1 (fun h => h)).trans hWb
    refine ⟨(hu2.cell hb (fun h => h)).trans h3, (hu2.cell hb (fun h => h)).trans h6, ?_, ?_⟩ <;> (unfold World.cell?; simp only [hbk]; rfl)⟩
  have hz : bits .andNot .i64 m marks = 0 := by simpa [marksIn] using hm
  have hz1 : (bits .andNot .i64 m marks == 0) = true := by simpa using hz
  have hz2 : decide (bits .andNot .i64 m marks = 0) = true := by simpa using hz
  clear hz
  have t1 : (n == 10) = true := by simpa using hn
  have t2 : (n != 10) = false := by simpa using hn
  clear hm hn
  clear h3 h6 hWb
  go_enter Tryz.func67, Tryz.ntmps67
  go_wp2
  rw [← hW]
  clear hW
  refine wp_region_T (P := Tryz.prog) (fun v => v.cell? ⟨b, o + 3, none⟩ = some (.int .i64 marks) ∧ v.cell? ⟨b, o + 6, none⟩ = some (.bool lines) ∧ v.cell? ⟨w.heap.size, 2, none⟩ = some (.int .i64 n) ∧ v.cell? ⟨w.heap.size, 3, none⟩ = some (.int .i64 m)) 23 (by kernel_rfl) ?_ (fun hHeld => ?_)
  · exact HSK.out _ ((Upd.refl _ _).drew)
  refine zT 0 ?_
  refine zT 1 ?_
  refine zT 2 ?_
  refine zT 3 ?_
  (try simp only [Act.put, sA, sB, sC])
  refine zT 4 ?_
  refine zT 5 ?_
  refine zT 6 ?_
  refine zT 7 ?_
  (try simp only [Act.put, sA, sB, sC])
  refine zT 8 ?_
  refine zT 9 ?_
  refine zT 10 ?_
  refine zT 11 ?_
  (try simp only [Act.put, sA, sB, sC])
  refine zT 12 ?_
  refine zT 13 ?_
  refine zT 14 ?_
  refine zT 15 ?_
  (try simp only [Act.put, sA, sB, sC])
  refine zT 16 ?_
  refine zT 17 ?_
  refine zT 18 ?_
  refine zT 19 ?_
  (try simp only [Act.put, sA, sB, sC])
  refine zT 20 ?_
  refine zT 21 ?_
  refine zT 22 ?_
  refine oT 23 (fun K hK => ?_)
  go_simp
  refine hK.out _ _ (fun h => absurd rfl h) (fun hHeld => ?_)
  clear hK K
  (try simp only [Act.put, sA, sB, sC])
  refine wpAnyT_done (by kernel_rfl) ?_ _
  go_wp2
  go_ret
  exact ⟨rfl, HPW.out.drew⟩
theorem may_rune {w : World} {c : Value} {b o : Nat} {x : Spec} (hb : b < w.heap.size) (h3 : w.cell? ⟨b, o + 3, none⟩ = some (.int .i64 x.marks)) (h6 : w.cell? ⟨b, o + 6, none⟩ = some (.bool x.lines)) {t n m : Int} : Calls Tryz.prog 67 #[.pointer (some ⟨b, o, none⟩), c, .agg #[.int .i64 0, .int .i64 t, .int .i64 n, .int .i64 m]] w fun r w' => r = .returned (.bool (runeB x n m)) ∧ Pure w w' := by
  cases hm : marksIn m x.marks
  · exact (may_rune_a hb h3 h6 hm).mono fun r w' h => ⟨by rw [h.1]; unfold runeB; rw [hm]; rfl, h.2⟩
  · by_cases hn : n = 10
    · exact (may_rune_c hb h3 h6 hm hn).mono fun r w' h => ⟨by rw [h.1]; unfold runeB; rw [hm]; simp [hn], h.2⟩
    · exact (may_rune_b hb h3 h6 hm hn).mono fun r w' h => ⟨by rw [h.1]; unfold runeB; rw [hm]; simp [hn], h.2⟩
/-- The spec of a type. -/
def specOf (rs : List (Spec × Ex)) (t : Int) : Option Spec := if t < 1 then none else (rs[t.toNat]?).map (·.1)
def mayT (rs : List (Spec × Ex)) (x : Spec) (t : Tok) : Bool := if t.k = 0 then runeB x t.n t.m else match specOf rs t.t with | some s => mayB s t | none => false
theorem may_calls {w : World} {cb : Nat} {rs : List (Spec × Ex)} {gs : List Grp} (h : SchR w cb rs gs) (hne : rs ≠ []) (hl : rs.length ≤ 1000) {b o : Nat} {x : Spec} (hb : b < w.heap.size) (h3 : w.cell? ⟨b, o + 3, none⟩ = some (.int .i64 x.marks)) (h6 : w.cell? ⟨b, o + 6, none⟩ = some (.bool x.lines)) (t : Tok) : Calls Tryz.prog 67 #[.pointer (some ⟨b, o, none⟩), .pointer (some ⟨cb, 0, none⟩), t.val] w fun r w' => r = .returned (.bool (mayT rs x t)) ∧ Pure w w' := by
  obtain ⟨k, tt, n, m⟩ := t
  by_cases hk : k = 0
  · subst hk
    exact (may_rune hb h3 h6).mono fun r w' h => ⟨by rw [h.1]; rfl, h.2⟩
  · by_cases h1 : tt < 1 ∨ (rs.length : Int) ≤ tt
    · have hs : specOf rs tt = none := by
        unfold specOf
        split
        · rfl
        · rw [List.getElem?_eq_none (by omega)]; rfl
      have hv : mayT rs x ⟨k, tt, n, m⟩ = false := by
        unfold mayT
        rw [if_neg hk]
        simp only [hs]
      rw [hv]
      exact may_out h hne hl h1 hk
    · obtain ⟨j, rfl⟩ : ∃ j : Nat, tt = j := ⟨tt.toNat, by omega⟩
      obtain ⟨y, hy⟩ : ∃ y, rs[j]? = some y := ⟨_, List.getElem?_eq_getElem (by omega)⟩
      obtain ⟨s, e⟩ := y
      have hs : specOf rs j = some s := by
        unfold specOf
        rw [if_neg (by omega), Int.toNat_natCast, hy]; rfl
      have hv : mayT rs x ⟨k, j, n, m⟩ = mayB s ⟨k, j, n, m⟩ := by
        unfold mayT
        rw [if_neg hk]
        simp only [hs]
      rw [hv]
      exact may_in h hl hy (by omega) hk
end Go.Proofs.YtofjodppljnlaaaGreatDoor
namespace Go.Proofs.YtofjodppljnlaaaGreatDoor
open Go.RowKit
set_option linter.unusedVariables false
set_option linter.unusedSimpArgs false
/-- A cell of a row of one-cell elements is set. -/
theorem ownsRow_set {w : World} {e : TypeId} {g len cap n : Nat} {xs : List Value} (h : w.ownsRow 0 e 1 (.slice (some ⟨g, 0, none⟩) len cap) len xs) (hn : n < len) (u : Value) :
    (w.setCell ⟨g, n, none⟩ u).ownsRow 0 e 1 (.slice (some ⟨g, 0, none⟩) len cap) len (xs.set n u) := by
  obtain ⟨h1, h2⟩ := h
  refine ⟨by simpa using h1, ?_⟩
  rcases h2 with ⟨h2, _⟩ | ⟨g', cap', cur, hv, hb, hg, hle, hcm, hcs, htake⟩
  · cases h2
  · simp at hv
    obtain ⟨rfl, rfl⟩ := hv
    refine .inr ⟨g, cap, cur.setIfInBounds n u, rfl, hb, by simp [World.setCell, Array.getElem?_modify, hg], hle, hcm, by simpa using hcs, ?_⟩
    rw [Array.toList_setIfInBounds, ← htake, List.take_set]
/-- Blocks of different element types are two. -/
theorem own_ne {w : World} {e e' : TypeId} {size size' n n' : Nat} {v v' : Value} {xs xs' : List Value} (h : w.ownsRow 0 e size v n xs) (h' : w.ownsRow 0 e' size' v' n' xs') (he : e ≠ e') : ∀ k, v.ownBlock = some k → v'.ownBlock ≠ some k := by
  intro k hk hk'
  rcases h.2 with ⟨rfl, _⟩ | ⟨g, cap, cur, rfl, _, hg, _⟩
  · cases hk
  · rcases h'.2 with ⟨rfl, _⟩ | ⟨g', cap', cur', rfl, _, hg', _⟩
    · cases hk'
    · simp [Value.ownBlock] at hk hk'
      subst hk hk'
      rw [hg] at hg'
      simp at hg'
      exact he hg'.2
theorem own_ne_block {w : World} {e e' : TypeId} {size n b : Nat} {v : Value} {xs : List Value} {cs : Array Value} {fr : Nat × Nat} (h : w.ownsRow 0 e size v n xs) (hb : w.heap[b]? = some (.cells cs e' fr)) (he : e ≠ e') : v.ownBlock ≠ some b := by
  intro hk
  rcases h.2 with ⟨rfl, _⟩ | ⟨g, cap, cur, rfl, _, hg, _⟩
  · cases hk
  · simp [Value.ownBlock] at hk
    subst hk
    rw [hg] at hb
    simp at hb
    exact he hb.2.1
/-- The rows of followers: each its own block. -/
structure Foll (w : World) (M : Nat → Prop) (v : Value) (fs : List (List Int)) (vs : List Value) : Prop where
  own : w.ownsRow 0 83 1 v fs.length vs
  inM : ∀ k, v.ownBlock = some k → M k
  each : ∀ (i : Nat) (u : Value) (x : List Int), vs[i]? = some u → fs[i]? = some x → intR.own 3 w (fun k => u.ownBlock = some k) u x ∧ ∀ k, u.ownBlock = some k → M k
  two : ∀ (i j : Nat) (u u' : Value) (k : Nat), vs[i]? = some u → vs[j]? = some u' → i ≠ j → u.ownBlock = some k → u'.ownBlock ≠ some k
/-- A machine at block mb: the types of its places, the followers of each; what it may write lies in M. -/
structure Mach (w : World) (B : Nat) (M : Nat → Prop) (mb : Nat) (ts fs : List (List Int)) (b0 b1 b2 tv fv : Value) (vs : List Value) : Prop where
  blk : w.heap[mb]? = some (.cells #[tv, fv, b0, b1, b2] 223 (0, 0))
  mbM : M mb
  low : ∀ k, M k → B ≤ k ∧ k < w.heap.size
  types : intR.slice.own 83 w (fun k => k < B ∨ tv.ownBlock = some k) tv ts
  typesM : ∀ k, tv.ownBlock = some k → M k
  foll : Foll w M fv fs vs
  apart : ∀ k, tv.ownBlock = some k → fv.ownBlock ≠ some k
theorem ownsRow_upd {w w1 : World} {S : Nat → Prop} {e : TypeId} {size n : Nat} {v : Value} {xs : List Value} (h : w.ownsRow 0 e size v n xs) (hu : Upd S w w1) (hs : ∀ k, v.ownBlock = some k → ¬ S k) : w1.ownsRow 0 e size v n xs := by
  refine ⟨h.1, ?_⟩
  rcases h.2 with hn | ⟨g, cap, cur, rfl, hb, hg, rest⟩
  · exact .inl hn
  · refine .inr ⟨g, cap, cur, rfl, hb, ?_, rest⟩
    rw [hu.block g (Array.getElem?_eq_some_iff.1 hg).1 (hs g rfl)]
    exact hg
theorem Foll.upd {w w1 : World} {S M : Nat → Prop} {v : Value} {fs : List (List Int)} {vs : List Value} (h : Foll w M v fs vs) (hu : Upd S w w1) (hs : ∀ k, M k → ¬ S k) : Foll w1 M v fs vs where
  own := ownsRow_upd h.own hu (fun k hk => hs k (h.inM k hk))
  inM := h.inM
  each := fun i u x hu' hx => ⟨Rp.own_upd (h.each i u x hu' hx).1 hu (fun k _ hk => hs k ((h.each i u x hu' hx).2 k hk)), (h.each i u x hu' hx).2⟩
  two := h.two
theorem Mach.upd {w w1 : World} {S : Nat → Prop} {B : Nat} {M : Nat → Prop} {mb : Nat} {ts fs : List (List Int)} {b0 b1 b2 tv fv : Value} {vs : List Value} (h : Mach w B M mb ts fs b0 b1 b2 tv fv vs) (hu : Upd S w w1) (hs : ∀ k, k < w.heap.size → S k → B ≤ k ∧ ¬ M k) : Mach w1 B M mb ts fs b0 b1 b2 tv fv vs where
  blk := by rw [hu.block mb (h.low mb h.mbM).2 (fun hS => (hs mb (h.low mb h.mbM).2 hS).2 h.mbM)]; exact h.blk
  mbM := h.mbM
  low := fun k hk => ⟨(h.low k hk).1, Nat.lt_of_lt_of_le (h.low k hk).2 hu.size⟩
  types := Rp.own_upd h.types hu (fun k hl hk hS => by
    have := hs k hl hS
    rcases hk with hk | hk
    · omega
    · exact this.2 (h.typesM k hk))
  typesM := h.typesM
  foll := h.foll.upd (S := fun k => S k ∧ k < w.heap.size) ⟨hu.os, hu.tape, hu.output, hu.size, fun k hk hn => hu.block k hk (fun hS => hn ⟨hS, hk⟩)⟩ (fun k hk hS => (hs k hS.2 hS.1).2 hk)
  apart := h.apart
theorem Mach.pure {w w1 : World} {B : Nat} {M : Nat → Prop} {mb : Nat} {ts fs : List (List Int)} {b0 b1 b2 tv fv : Value} {vs : List Value} (h : Mach w B M mb ts fs b0 b1 b2 tv fv vs) (hu : Pure w w1) : Mach w1 B M mb ts fs b0 b1 b2 tv fv vs := h.upd hu (fun _ _ h => h.elim)
/-- One row of followers grown, and laid anew into the row of rows. -/
theorem Mach.join1 {w w1 : World} {B : Nat} {M : Nat → Prop} {mb : Nat} {ts fs : List (List Int)} {b0 b1 b2 tv : Value} {fb cap : Nat} {vs : List Value} (h : Mach w B M mb ts fs b0 b1 b2 tv (.slice (some ⟨fb, 0, none⟩) fs.length cap) vs)
    {n : Nat} {x : List Int} {u u1 : Value} (hx : fs[n]? = some x) (hu : vs[n]? = some u) {first : List Int} {F : Nat → Prop} (ho : intR.own 3 w1 F u1 (x ++ first)) (hU : Upd (fun k => u.ownBlock = some k) w w1)
    (hat : u1.ownBlock = u.ownBlock ∨ ∃ b, u1.ownBlock = some b ∧ w.heap.size ≤ b) :
    Mach (w1.setCell ⟨fb, n, none⟩ u1) B (fun k => M k ∨ (w.heap.size ≤ k ∧ k < w1.heap.size)) mb ts (fs.modify n (· ++ first)) b0 b1 b2 tv (.slice (some ⟨fb, 0, none⟩) (fs.modify n (· ++ first)).length cap) (vs.set n u1) ∧
      Upd M w (w1.setCell ⟨fb, n, none⟩ u1) := by
  have hB : B ≤ w.heap.size := by have := h.low mb h.mbM; omega
  have hn : n < fs.length := (List.getElem?_eq_some_iff.1 hx).1
  obtain ⟨hou, huM⟩ := h.foll.each n u x hu hx
  have hfb : M fb := h.foll.inM fb rfl
  have hufb : ∀ k, u.ownBlock = some k → k ≠ fb := by
    rintro k hk rfl
    obtain ⟨inner, h1, _⟩ := hou
    exact own_ne h1 h.foll.own (by decide) k hk rfl
  have hU2 : Upd (fun k => u.ownBlock = some k ∨ k = fb) w (w1.setCell ⟨fb, n, none⟩ u1) := (hU.mono (fun k _ hk => .inl hk)).setCell (p := ⟨fb, n, none⟩) (fun _ => .inr rfl) u1
  have hSM : ∀ k, (u.ownBlock = some k ∨ k = fb) → M k := by
    rintro k (hk | rfl)
    · exact huM k hk
    · exact hfb
  have hmbu : u.ownBlock ≠ some mb := by
    obtain ⟨inner, h1, _⟩ := hou
    exact own_ne_block h1 h.blk (by decide)
  have hmbf : mb ≠ fb := by
    rintro rfl
    exact own_ne_block h.foll.own h.blk (by decide) rfl
  have hsz : (w1.setCell ⟨fb, n, none⟩ u1).heap.size = w1.heap.size := by simp [World.setCell]
  have hto : ∃ ti, w.ownsRow 0 83 1 tv ts.length ti := by obtain ⟨inner, h1, _⟩ := h.types; exact ⟨inner, h1⟩
  obtain ⟨ti, hto⟩ := hto
  have hmod : ∀ i, i ≠ n → (fs.modify n (· ++ first))[i]? = fs[i]? := fun i hi => by rw [List.getElem?_modify]; simp [Ne.symm hi]
  have hmodn : (fs.modify n (· ++ first))[n]? = some (x ++ first) := by rw [List.getElem?_modify]; simp [hx]
  have hvn : n < vs.length := (List.getElem?_eq_some_iff.1 hu).1
  have hset : ∀ i, i ≠ n → (vs.set n u1)[i]? = vs[i]? := fun i hi => by rw [List.getElem?_set]; simp [Ne.symm hi]
  have hsetn : (vs.set n u1)[n]? = some u1 := by rw [List.getElem?_set]; simp [hvn]
  have hu1fb : ∀ k, u1.ownBlock = some k → k ≠ fb := by
    intro k hk
    rcases hat with hat | ⟨b, hb, hle⟩
    · exact hufb k (hat ▸ hk)
    · rw [hb] at hk
      injection hk with hk
      have := (h.low fb hfb).2
      omega
  have hu1M : ∀ k, u1.ownBlock = some k → M k ∨ (w.heap.size ≤ k ∧ k < w1.heap.size) := by
    intro k hk
    rcases hat with hat | ⟨b, hb, hle⟩
    · exact .inl (huM k (hat ▸ hk))
    · have := (Rp.own_block_lt ho k hk).2
      rw [hb] at hk
      injection hk with hk
      exact .inr ⟨by omega, this⟩
  refine ⟨⟨?_, .inl h.mbM, ?_, ?_, fun k hk => .inl (h.typesM k hk), ⟨?_, fun k hk => .inl (h.foll.inM k hk), ?_, ?_⟩, h.apart⟩, hU2.mono (fun k _ hk => hSM k hk)⟩
  · rw [hU2.block mb (h.low mb h.mbM).2 (by rintro (hk | hk); exact hmbu hk; exact hmbf hk), List.length_modify]
    exact h.blk
  · rintro k (hk | hk)
    · exact ⟨(h.low k hk).1, by rw [hsz]; exact Nat.lt_of_lt_of_le (h.low k hk).2 hU.size⟩
    · exact ⟨by omega, by rw [hsz]; exact hk.2⟩
  · refine Rp.own_upd h.types hU2 (fun k hl hk hS => ?_)
    rcases hk with hk | hk
    · have := (h.low k (hSM k hS)).1
      omega
    · rcases hS with hS | rfl
      · obtain ⟨inner, h1, _⟩ := hou
        exact own_ne hto h1 (by decide) k hk hS
      · exact h.apart k hk rfl
  · rw [List.length_modify]
    obtain ⟨inner, h1, _⟩ := hou
    exact ownsRow_set (ownsRow_upd h.foll.own hU (fun k hk hS => own_ne h.foll.own h1 (by decide) k hk hS)) hn u1
  · intro i v y hv hy
    by_cases hi : i = n
    · subst hi
      rw [hsetn] at hv
      rw [hmodn] at hy
      cases hv
      cases hy
      exact ⟨int_own_fp (Rp.own_upd (int_own_fp ho) (Upd.setCell1 (S := fun k => k = fb) w1 (p := ⟨fb, i, none⟩) rfl u1) (fun k _ hk he => hu1fb k hk he)), hu1M⟩
    · rw [hset i hi] at hv
      rw [hmod i hi] at hy
      obtain ⟨ho2, hM2⟩ := h.foll.each i v y hv hy
      refine ⟨Rp.own_upd ho2 hU2 (fun k _ hk hS => ?_), fun k hk => .inl (hM2 k hk)⟩
      rcases hS with hS | rfl
      · exact h.foll.two i n v u k hv hu hi hk hS
      · obtain ⟨inner, h1, _⟩ := ho2
        exact own_ne h1 h.foll.own (by decide) k hk rfl
  · intro i j v v' k hv hv' hij hk
    by_cases hi : i = n
    · subst hi
      rw [hsetn] at hv
      cases hv
      rw [hset j (Ne.symm hij)] at hv'
      rcases hat with hat | ⟨b, hb, hle⟩
      · exact h.foll.two i j u v' k hu hv' hij (hat ▸ hk)
      · rw [hb] at hk
        injection hk with hk
        subst hk
        intro hk'
        have hj : j < fs.length := by rw [← (show vs.length = fs.length by simpa using h.foll.own.1)]; exact (List.getElem?_eq_some_iff.1 hv').1
        have := (h.low b ((h.foll.each j v' _ hv' (List.getElem?_eq_getElem hj)).2 b hk')).2
        omega
    · rw [hset i hi] at hv
      by_cases hj : j = n
      · subst hj
        rw [hsetn] at hv'
        cases hv'
        rcases hat with hat | ⟨b, hb, hle⟩
        · rw [hat]
          exact h.foll.two i j v u k hv hu hij hk
        · rw [hb]
          intro hk'
          injection hk' with hk'
          subst hk'
          have hi2 : i < fs.length := by rw [← (show vs.length = fs.length by simpa using h.foll.own.1)]; exact (List.getElem?_eq_some_iff.1 hv).1
          have := (h.low b ((h.foll.each i v _ hv (List.getElem?_eq_getElem hi2)).2 b hk)).2
          omega
      · rw [hset j hj] at hv'
        exact h.foll.two i j v v' k hv hv' hij hk
/-- What join does to the rows. -/
def joinF (fs : List (List Int)) (last first : List Int) : List (List Int) := last.foldl (fun fs a => fs.modify a.toNat (· ++ first)) fs
theorem joinF_len (fs : List (List Int)) (last first : List Int) : (joinF fs last first).length = fs.length := by
  unfold joinF
  induction last generalizing fs with
  | nil => rfl
  | cons a r ih => simp [ih]
theorem joinF_succ {fs : List (List Int)} {last first : List Int} {k : Nat} {a : Int} (ha : last[k]? = some a) : joinF fs (last.take (k + 1)) first = (joinF fs (last.take k) first).modify a.toNat (· ++ first) := by
  unfold joinF
  rw [List.take_add_one, ha, List.foldl_append]
  rfl
theorem joinF_bound {fs : List (List Int)} {last first : List Int} {b : Nat} (hb : ∀ x ∈ fs, x.length ≤ b) : ∀ x ∈ joinF fs last first, x.length ≤ b + last.length * first.length := by
  unfold joinF
  induction last generalizing fs b with
  | nil => intro x hx; have := hb x hx; simp; omega
  | cons a r ih =>
    intro x hx
    have := ih (fs := fs.modify a.toNat (· ++ first)) (b := b + first.length) (fun y hy => by
      obtain ⟨i, hi⟩ := List.getElem?_of_mem hy
      rw [List.getElem?_modify] at hi
      cases hfi : fs[i]? with
      | none => simp [hfi] at hi
      | some z =>
        have hz := hb z (List.mem_of_getElem? hfi)
        rw [hfi] at hi
        by_cases he : a.toNat = i
        · simp [he] at hi
          rw [← hi, List.length_append]
          omega
        · simp [he] at hi
          rw [← hi]
          omega) x hx
    rw [List.length_cons, Nat.add_mul]
    omega
abbrev Grow (M M' : Nat → Prop) (lo hi : Nat) : Prop := (∀ k, M k → M' k) ∧ ∀ k, M' k → M k ∨ (lo ≤ k ∧ k < hi)
def JoinRel (w wr : World) (B : Nat) (M : Nat → Prop) (mb : Nat) (ts fs : List (List Int)) (b0 b1 b2 tv : Value) : Prop :=
  ∃ M' fv vs, Mach wr B M' mb ts fs b0 b1 b2 tv fv vs ∧ Grow M M' w.heap.size wr.heap.size ∧ Upd M w wr
set_option maxRecDepth 100000 in
set_option maxHeartbeats 4000000 in
theorem join_calls {w : World} {B : Nat} {M F G : Nat → Prop} {mb : Nat} {ts fs : List (List Int)} {b0 b1 b2 tv fv : Value} {vs : List Value} {Al Af : Option Addr} {cl cf : Nat} {last first : List Int}
    (h : Mach w B M mb ts fs b0 b1 b2 tv fv vs) (hl : intR.row w F Al last) (hf : intR.row w G Af first) (hF : ∀ k, F k → k < w.heap.size → ¬ M k) (hG : ∀ k, G k → k < w.heap.size → ¬ M k) (hr : ∀ a ∈ last, 0 ≤ a ∧ a < fs.length)
    (hfl : fs.length ≤ 1048576) (hbl : last.length ≤ 1000) (hbf : first.length ≤ 1000) (hbs : ∀ x ∈ fs, x.length ≤ 1000000000) :
    Calls Tryz.prog 193 #[.pointer (some ⟨mb, 0, none⟩), .slice Al last.length cl, .slice Af first.length cf] w fun r w' => r = .returned (.tuple #[]) ∧ JoinRel w w' B M mb ts (joinF fs last first) b0 b1 b2 tv := by
  have HM := As.mk h
  have HL := As.mk hl
  have HF := As.mk hf
  have HFM := As.mk hF
  have HGM := As.mk hG
  have HB := As.mk hbs
  have HA := As.mk hr
  clear h hl hf hF hG hbs hr
  go_enter Tryz.func193, Tryz.ntmps193
  go_wp2
  go_loopg [10] last.length (fun g i wr => ∃ k : Nat, k + g = last.length ∧ i = .int .i64 k ∧ As (JoinRel w wr B M mb ts (joinF fs (last.take k) first) b0 b1 b2 tv))
  case atStart => exact ⟨0, by omega, rfl, ⟨M, fv, vs, HM.out, ⟨fun _ h => h, fun _ h => .inl h⟩, Upd.refl _ _⟩⟩
  case round =>
    obtain ⟨k, hk, rfl, HC⟩ := hrel
    by_cases hlt : k < last.length
    · obtain ⟨x, hx⟩ : ∃ x, last[k]? = some x := ⟨_, List.getElem?_eq_getElem hlt⟩
      obtain ⟨M1, fv1, vs1, hm1, hg1, hu1⟩ := HC.out
      have HLr := As.mk (Rp.row_upd HL.out hu1 (fun k hk hF => HFM.out k hF hk))
      have HFr := As.mk (Rp.row_upd HF.out hu1 (fun k hk hF => HGM.out k hF hk))
      obtain ⟨b, o, rfl, hFb, hbb, d0⟩ := int_at HLr.out hx
      obtain ⟨hx0, hx1⟩ := HA.out x (List.mem_of_getElem? hx)
      obtain ⟨n, rfl⟩ : ∃ n : Nat, x = n := ⟨x.toNat, by omega⟩
      have hlen := joinF_len fs (last.take k) first
      obtain ⟨y, hy⟩ : ∃ y, (joinF fs (last.take k) first)[n]? = some y := ⟨_, List.getElem?_eq_getElem (by omega)⟩
      have hyl := joinF_bound (last := last.take k) (first := first) HB.out y (List.mem_of_getElem? hy)
      rw [List.length_take] at hyl
      have hyl2 : y.length ≤ 1001000000 := by
        have : min k last.length * first.length ≤ 1000 * 1000 := Nat.mul_le_mul (by omega) hbf
        omega
      obtain ⟨g1, rfl⟩ : ∃ m, gk = m + 1 := ⟨gk - 1, by omega⟩
      have hvl : vs1.length = (joinF fs (last.take k) first).length := by simpa using hm1.foll.own.1
      obtain ⟨u, hu⟩ : ∃ u, vs1[n]? = some u := ⟨_, List.getElem?_eq_getElem (by omega)⟩
      have hnf : n < (joinF fs (last.take k) first).length := by omega
      have hnfi : (n : Int) < ((joinF fs (last.take k) first).length : Int) := by omega
      obtain ⟨fb, cap, rfl, _, hfbl⟩ := hm1.foll.own.form (by omega)
      have hmd : As (Mach wr.drew B M1 mb ts (joinF fs (last.take k) first) b0 b1 b2 tv (.slice (some ⟨fb, 0, none⟩) (joinF fs (last.take k) first).length cap) vs1) := ⟨hm1.pure ((Upd.refl _ _).drew)⟩
      obtain ⟨hou, huM⟩ := hmd.out.foll.each n u y hu hy
      have hcur : ∃ cur, wr.heap[fb]? = some (.cells cur 83 (0, 0)) ∧ cur[n]? = some u := by
        rcases hm1.foll.own.2 with ⟨h, _⟩ | ⟨g, cap', cur, hv, _, hg, hle, _, hcs, htake⟩
        · cases h
        · simp at hv
          obtain ⟨rfl, rfl⟩ := hv
          refine ⟨cur, hg, ?_⟩
          rw [← htake, List.getElem?_take] at hu
          split at hu
          · simpa using hu
          · cases hu
      obtain ⟨cur, hcb, hcn⟩ := hcur
      have q1 : wr.cell? ⟨mb, 1, none⟩ = some (.slice (some ⟨fb, 0, none⟩) (joinF fs (last.take k) first).length cap) := by unfold World.cell?; simp only [hm1.blk]; rfl
      have q2 : wr.cell? ⟨fb, n, none⟩ = some u := by unfold World.cell?; simp only [hcb]; exact hcn
      have q3 : wr.frozen? ⟨fb, n, none⟩ = false := by simp [World.frozen?, hcb]
      have hmbl := (hm1.low mb hm1.mbM).2
      have HSK : As (∀ w1, Upd (fun k => u.ownBlock = some k) wr.drew w1 → w1.cell? ⟨mb, 1, none⟩ = some (.slice (some ⟨fb, 0, none⟩) (joinF fs (last.take k) first).length cap) ∧ w1.cell? ⟨fb, n, none⟩ = some u ∧ w1.frozen? ⟨fb, n, none⟩ = false) := ⟨by
        intro w1 hU
        obtain ⟨inner, h1, _⟩ := hou
        have n1 : ¬ u.ownBlock = some mb := own_ne_block h1 hmd.out.blk (by decide)
        have n2 : ¬ u.ownBlock = some fb := fun hk => own_ne h1 hmd.out.foll.own (by decide) fb hk rfl
        exact ⟨(hU.cell hmbl n1).trans q1, (hU.cell hfbl n2).trans q2, (hU.frozen hfbl n2).trans q3⟩⟩
      have HSS : As (∀ w1, Upd (fun k => u.ownBlock = some k) wr.drew w1 → ∀ v, (w1.setCell ⟨fb, n, none⟩ v).cell? ⟨mb, 1, none⟩ = some (.slice (some ⟨fb, 0, none⟩) (joinF fs (last.take k) first).length cap) ∧ (w1.setCell ⟨fb, n, none⟩ v).frozen? ⟨fb, n, none⟩ = false) := ⟨by
        intro w1 hU v
        obtain ⟨s1, s2, s3⟩ := HSK.out w1 hU
        have hne : mb ≠ fb := by
          rintro rfl
          exact own_ne_block hmd.out.foll.own hmd.out.blk (by decide) rfl
        refine ⟨?_, ?_⟩
        · rw [← s1]
          exact World.cell?_of_block (Below.heap_setCell _ _ _ _ hne)
        · rw [World.frozen?_setCell]
          exact s3⟩
      have HOU := As.mk hou
      have HY := As.mk hy
      have HUU := As.mk hu
      have HG1 := As.mk hg1
      have HU1' := As.mk hu1
      have HT := As.mk (joinF_succ (fs := fs) (first := first) hx)
      have HK := As.mk hk
      have HFd := As.mk (Rp.row_pure HFr.out ((Upd.refl (fun _ => False) wr).drew))
      have HQ := As.mk (And.intro q1 (And.intro q2 q3))
      generalize hfs : joinF fs (last.take k) first = fk at *
      clear hk hx hy hu hg1 hu1 hou hcb hcn hm1 HC HLr HFr q1 q2 q3 hvl hlen hyl hfs huM
      go_wp2
      have q2 := HQ.out.2.1
      have q2d : wr.drew.cell? ⟨fb, n, none⟩ = some u := q2
      refine wp_region_T (P := Tryz.prog) (fun w' => w'.cell? ⟨mb, 1, none⟩ = some (.slice (some ⟨fb, 0, none⟩) fk.length cap) ∧ w'.cell? ⟨fb, n, none⟩ = some u ∧ w'.frozen? ⟨fb, n, none⟩ = false) 15 (by kernel_rfl) ?_ (fun hHeld => ?_)
      · first | exact HQ.out | exact HSK.out _ HU2.out
      refine zT 0 ?_
      (try simp only [Act.put, sA, sB, sC])
      refine zT 1 ?_
      (try simp only [Act.put, sA, sB, sC])
      refine zT 2 ?_
      (try simp only [Act.put, sA, sB, sC])
      refine zT 3 ?_
      (try simp only [Act.put, sA, sB, sC])
      refine zT 4 ?_
      (try simp only [Act.put, sA, sB, sC])
      refine zT 5 ?_
      (try simp only [Act.put, sA, sB, sC])
      refine zT 6 ?_
      (try simp only [Act.put, sA, sB, sC])
      refine zT 7 ?_
      (try simp only [Act.put, sA, sB, sC])
      refine zT 8 ?_
      (try simp only [Act.put, sA, sB, sC])
      refine zT 9 ?_
      (try simp only [Act.put, sA, sB, sC])
      refine zT 10 ?_
      (try simp only [Act.put, sA, sB, sC])
      refine zT 11 ?_
      (try simp only [Act.put, sA, sB, sC])
      refine zT 12 ?_
      (try simp only [Act.put, sA, sB, sC])
      refine oT 13 (fun K hK => ?_)
      refine Rp.step_append_row intR (c := cf) HOU.out (Rp.row'_of HFd.out (fun _ _ h => h)) (Fz := fun _ => False) (fun _ h => h.elim) (by rfl) _ _ 83 (.int .i64 0) 8 (by rfl) Tryz.underlying83 int_info rfl (by decide) (by decide) (by rfl) (by rfl) (by omega) ?_; intro v1 w2 ho1 hu2 hat; obtain ⟨A1, c1, rfl, _, _⟩ := Rp.own_slice ho1; have HO1 := As.mk ho1; have HU2 := As.mk hu2; have HAT := As.mk hat; have HST := As.mk (fun v => HSS.out w2 hu2 v); obtain ⟨s1, s2, s3⟩ := HSK.out w2 hu2; clear ho1 hu2 hat
      refine hK.out _ _ (fun _ => by first | exact HQ.out | exact HSK.out _ HU2.out) (fun hHeld => ?_)
      replace hHeld := hHeld (by decide)
      clear hK K
      (try simp only [Act.put, sA, sB, sC])
      refine zT 14 ?_
      (try simp only [Act.put, sA, sB, sC])
      refine oT 15 (fun K hK => ?_)
      go_simp
      refine hK.out _ _ (fun h => absurd rfl h) (fun hHeld => ?_)
      clear hK K
      (try simp only [Act.put, sA, sB, sC])
      refine wpAnyT_done (by kernel_rfl) ?_ _
      obtain ⟨hmn, hun⟩ := Mach.join1 hmd.out HY.out HUU.out HO1.out HU2.out HAT.out
      have hsz2 : (w2.setCell ⟨fb, n, none⟩ (.slice A1 (y.length + first.length) c1)).heap.size = w2.heap.size := by simp [World.setCell]
      have HN : As (JoinRel w (w2.setCell ⟨fb, n, none⟩ (.slice A1 (y.length + first.length) c1)) B M mb ts (joinF fs (last.take (k + 1)) first) b0 b1 b2 tv) := ⟨by
        have hle1 : wr.heap.size ≤ w2.heap.size := HU2.out.size
        have hle0 := HU1'.out.size
        rw [HT.out]
        have e1 : ((n : Int)).toNat = n := by simp
        rw [e1]
        rw [List.length_append] at hmn hun
        refine ⟨_, _, _, hmn, ⟨fun q hq => .inl (HG1.out.1 q hq), fun q hq => ?_⟩, Upd.trans HU1'.out (Upd.trans ((Upd.refl M1 wr).drew) hun (fun k _ h => h)) (fun q hq h => ?_)⟩
        · rcases hq with hq | hq
          · rcases HG1.out.2 q hq with hq | hq
            · exact .inl hq
            · exact .inr ⟨hq.1, by rw [hsz2]; omega⟩
          · exact .inr ⟨by have h1 : wr.heap.size ≤ q := hq.1; omega, by rw [hsz2]; exact hq.2⟩
        · rcases HG1.out.2 q h with h | h
          · exact h
          · omega⟩
      go_wp2
      go_roundg g1
      case measure => omega
      case rel => exact ⟨k + 1, by have := HK.out; omega, by go_num, HN⟩
    · have hkl : k = last.length := by omega
      subst hkl
      rw [List.take_length] at HC
      go_wp2
      go_end0
      exact ⟨rfl, HC.out⟩
end Go.Proofs.YtofjodppljnlaaaGreatDoor
namespace Go.Proofs.YtofjodppljnlaaaGreatDoor
open Go.RowKit
set_option linter.unusedVariables false
set_option linter.unusedSimpArgs false
theorem Foll.upd2 {w w1 : World} {S M M' : Nat → Prop} {v : Value} {fs : List (List Int)} {vs : List Value} (h : Foll w M v fs vs) (hu : Upd S w w1) (h1 : ∀ k, v.ownBlock = some k → ¬ S k) (h2 : ∀ u ∈ vs, ∀ k, u.ownBlock = some k → ¬ S k) (hM : ∀ k, M k → M' k) : Foll w1 M' v fs vs where
  own := ownsRow_upd h.own hu h1
  inM := fun k hk => hM k (h.inM k hk)
  each := fun i u x hu' hx => ⟨Rp.own_upd (h.each i u x hu' hx).1 hu (fun k _ hk => h2 u (List.mem_of_getElem? hu') k hk), fun k hk => hM k ((h.each i u x hu' hx).2 k hk)⟩
  two := h.two
theorem Foll.int {w : World} {M : Nat → Prop} {v : Value} {fs : List (List Int)} {vs : List Value} (h : Foll w M v fs vs) {u : Value} (hu : u ∈ vs) : ∃ n inner, w.ownsRow 0 3 1 u n inner ∧ ∀ k, u.ownBlock = some k → M k := by
  obtain ⟨i, hi⟩ := List.getElem?_of_mem hu
  have hl : vs.length = fs.length := by simpa using h.own.1
  have hlt : i < fs.length := by rw [← hl]; exact (List.getElem?_eq_some_iff.1 hi).1
  obtain ⟨⟨inner, h1, _⟩, h2⟩ := h.each i u _ hi (List.getElem?_eq_getElem hlt)
  exact ⟨_, inner, h1, h2⟩
theorem Mach.types1 {w w2 : World} {B : Nat} {M : Nat → Prop} {mb : Nat} {ts fs : List (List Int)} {b0 b1 b2 tv fv v1 : Value} {vs : List Value} (h : Mach w B M mb ts fs b0 b1 b2 tv fv vs) {x : List Int}
    (ho : intR.slice.own 83 w2 (fun k => ((k < B ∨ tv.ownBlock = some k) ∧ some k ≠ tv.ownBlock) ∨ k < B ∨ v1.ownBlock = some k) v1 (ts ++ [x])) (hU : Upd (fun k => tv.ownBlock = some k) w w2)
    (hat : v1.ownBlock = tv.ownBlock ∨ ∃ b, v1.ownBlock = some b ∧ w.heap.size ≤ b) :
    Mach (w2.setCell ⟨mb, 0, none⟩ v1) B (fun k => M k ∨ (w.heap.size ≤ k ∧ k < w2.heap.size)) mb (ts ++ [x]) fs b0 b1 b2 v1 fv vs ∧ Upd M w (w2.setCell ⟨mb, 0, none⟩ v1) := by
  have hB : B ≤ w.heap.size := by have := h.low mb h.mbM; omega
  have hsz : (w2.setCell ⟨mb, 0, none⟩ v1).heap.size = w2.heap.size := by simp [World.setCell]
  obtain ⟨ti, hto, _⟩ := h.types
  have hmt : tv.ownBlock ≠ some mb := own_ne_block hto h.blk (by decide)
  have hblk2 : w2.heap[mb]? = some (.cells #[tv, fv, b0, b1, b2] 223 (0, 0)) := by rw [hU.block mb (h.low mb h.mbM).2 hmt]; exact h.blk
  have hU2 : Upd (fun k => tv.ownBlock = some k ∨ k = mb) w (w2.setCell ⟨mb, 0, none⟩ v1) := (hU.mono (fun k _ hk => .inl hk)).setCell (p := ⟨mb, 0, none⟩) (fun _ => .inr rfl) v1
  have hm1 : v1.ownBlock ≠ some mb := by obtain ⟨i2, ho2, _⟩ := ho; exact own_ne_block ho2 hblk2 (by decide)
  have hlt1 := Rp.own_block_lt ho
  refine ⟨⟨by simp [World.setCell, Array.getElem?_modify, hblk2], .inl h.mbM, ?_, ?_, ?_, ?_, ?_⟩, hU2.mono (fun k _ hk => ?_)⟩
  · rintro k (hk | hk)
    · exact ⟨(h.low k hk).1, by rw [hsz]; exact Nat.lt_of_lt_of_le (h.low k hk).2 hU.size⟩
    · exact ⟨by omega, by rw [hsz]; exact hk.2⟩
  · refine Rp.own_fp (Rp.own_upd ho (Upd.setCell1 (S := fun k => k = mb) w2 (p := ⟨mb, 0, none⟩) rfl v1) (fun k _ hk he => ?_)) (fun k hk => ?_)
    · subst he
      have := (h.low k h.mbM).1
      rcases hk with ⟨hk | hk, h3⟩ | hk | hk
      · omega
      · exact h3 hk.symm
      · omega
      · exact hm1 hk
    · rcases hk with ⟨hk | hk, h3⟩ | hk | hk
      · exact .inl hk
      · exact absurd hk.symm h3
      · exact .inl hk
      · exact .inr hk
  · intro k hk
    have h4 := (hlt1 k hk).2
    rcases hat with hat | ⟨b, hb, hle⟩
    · exact .inl (h.typesM k (hat ▸ hk))
    · rw [hb] at hk
      injection hk with hk
      exact .inr ⟨by omega, h4⟩
  · refine h.foll.upd2 hU2 ?_ ?_ (fun k hk => .inl hk)
    · rintro k hk (hS | rfl)
      · exact h.apart k hS hk
      · exact own_ne_block h.foll.own h.blk (by decide) hk
    · rintro u hu k hk (hS | rfl)
      · obtain ⟨n, inner, h5, _⟩ := h.foll.int hu
        exact own_ne h5 hto (by decide) k hk hS
      · obtain ⟨n, inner, h5, _⟩ := h.foll.int hu
        exact own_ne_block h5 h.blk (by decide) hk
  · intro k hk hk'
    rcases hat with hat | ⟨b, hb, hle⟩
    · exact h.apart k (hat ▸ hk) hk'
    · rw [hb] at hk
      injection hk with hk
      have := (h.low k (h.foll.inM k hk')).2
      omega
  · rcases hk with hk | rfl
    · exact h.typesM k hk
    · exact h.mbM
theorem Mach.foll1 {w w2 : World} {B : Nat} {M : Nat → Prop} {mb : Nat} {ts fs : List (List Int)} {b0 b1 b2 tv fv v1 : Value} {vs : List Value} (h : Mach w B M mb ts fs b0 b1 b2 tv fv vs)
    (ho : w2.ownsRow 0 83 1 v1 (fs.length + 1) (vs ++ [.slice none 0 0])) (hU : Upd (fun k => fv.ownBlock = some k) w w2)
    (hat : v1.ownBlock = fv.ownBlock ∨ ∃ b, v1.ownBlock = some b ∧ w.heap.size ≤ b) :
    Mach (w2.setCell ⟨mb, 1, none⟩ v1) B (fun k => M k ∨ (w.heap.size ≤ k ∧ k < w2.heap.size)) mb ts (fs ++ [[]]) b0 b1 b2 tv v1 (vs ++ [.slice none 0 0]) ∧ Upd M w (w2.setCell ⟨mb, 1, none⟩ v1) := by
  have hB : B ≤ w.heap.size := by have := h.low mb h.mbM; omega
  have hsz : (w2.setCell ⟨mb, 1, none⟩ v1).heap.size = w2.heap.size := by simp [World.setCell]
  obtain ⟨ti, hto, _⟩ := h.types
  have hl : vs.length = fs.length := by simpa using h.foll.own.1
  have hmt : fv.ownBlock ≠ some mb := own_ne_block h.foll.own h.blk (by decide)
  have hblk2 : w2.heap[mb]? = some (.cells #[tv, fv, b0, b1, b2] 223 (0, 0)) := by rw [hU.block mb (h.low mb h.mbM).2 hmt]; exact h.blk
  have hU2 : Upd (fun k => fv.ownBlock = some k ∨ k = mb) w (w2.setCell ⟨mb, 1, none⟩ v1) := (hU.mono (fun k _ hk => .inl hk)).setCell (p := ⟨mb, 1, none⟩) (fun _ => .inr rfl) v1
  have hm1 : v1.ownBlock ≠ some mb := own_ne_block ho hblk2 (by decide)
  have hlt1 : ∀ k, v1.ownBlock = some k → k < w2.heap.size := fun k hk => (ho.lt k hk).2
  have hv1M : ∀ k, v1.ownBlock = some k → M k ∨ (w.heap.size ≤ k ∧ k < w2.heap.size) := by
    intro k hk
    have h4 := hlt1 k hk
    rcases hat with hat | ⟨b, hb, hle⟩
    · exact .inl (h.foll.inM k (hat ▸ hk))
    · rw [hb] at hk
      injection hk with hk
      exact .inr ⟨by omega, h4⟩
  refine ⟨⟨by simp [World.setCell, Array.getElem?_modify, hblk2], .inl h.mbM, ?_, ?_, fun k hk => .inl (h.typesM k hk), ⟨?_, hv1M, ?_, ?_⟩, ?_⟩, hU2.mono (fun k _ hk => ?_)⟩
  · rintro k (hk | hk)
    · exact ⟨(h.low k hk).1, by rw [hsz]; exact Nat.lt_of_lt_of_le (h.low k hk).2 hU.size⟩
    · exact ⟨by omega, by rw [hsz]; exact hk.2⟩
  · refine Rp.own_upd h.types hU2 (fun k hl2 hk hS => ?_)
    rcases hk with hk | hk
    · rcases hS with hS | rfl
      · have := (h.low k (h.foll.inM k hS)).1; omega
      · have := (h.low k h.mbM).1; omega
    · rcases hS with hS | rfl
      · exact h.apart k hk hS
      · exact own_ne_block hto h.blk (by decide) hk
  · rw [List.length_append]
    exact ownsRow_upd ho (Upd.setCell1 (S := fun k => k = mb) w2 (p := ⟨mb, 1, none⟩) rfl v1) (fun k hk he => hm1 (he ▸ hk))
  · intro i u x hu hx
    rcases Nat.lt_or_ge i vs.length with hi | hi
    · rw [List.getElem?_append_left hi] at hu
      rw [List.getElem?_append_left (by omega)] at hx
      obtain ⟨h5, h6⟩ := h.foll.each i u x hu hx
      refine ⟨Rp.own_upd h5 hU2 (fun k _ hk hS => ?_), fun k hk => .inl (h6 k hk)⟩
      obtain ⟨inner, h7, _⟩ := h5
      rcases hS with hS | rfl
      · exact own_ne h7 h.foll.own (by decide) k hk hS
      · exact own_ne_block h7 h.blk (by decide) hk
    · rw [List.getElem?_append_right hi] at hu
      rw [List.getElem?_append_right (by omega)] at hx
      match hk : i - vs.length, hu with
      | 0, hu =>
        rw [← hl, hk] at hx
        simp at hu hx
        subst hu hx
        exact ⟨Rp.own_nil _ _ _ _, fun k hk => by simp [Value.ownBlock] at hk⟩
      | j + 1, hu => simp at hu
  · intro i j u u' k hu hu' hij hk
    rcases Nat.lt_or_ge i vs.length with hi | hi
    · rw [List.getElem?_append_left hi] at hu
      rcases Nat.lt_or_ge j vs.length with hj | hj
      · rw [List.getElem?_append_left hj] at hu'
        exact h.foll.two i j u u' k hu hu' hij hk
      · rw [List.getElem?_append_right hj] at hu'
        have := List.mem_of_getElem? hu'
        simp at this
        subst this
        simp [Value.ownBlock]
    · rw [List.getElem?_append_right hi] at hu
      have := List.mem_of_getElem? hu
      simp at this
      subst this
      simp [Value.ownBlock] at hk
  · intro k hk hk'
    rcases hat with hat | ⟨b, hb, hle⟩
    · exact h.apart k hk (hat ▸ hk')
    · rw [hb] at hk'
      injection hk' with hk'
      have := (h.low k (h.typesM k hk)).2
      omega
  · rcases hk with hk | rfl
    · exact h.foll.inM k hk
    · exact h.mbM
end Go.Proofs.YtofjodppljnlaaaGreatDoor
