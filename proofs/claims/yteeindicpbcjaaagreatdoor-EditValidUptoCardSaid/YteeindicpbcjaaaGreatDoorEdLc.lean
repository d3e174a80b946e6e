/- edit: a step of any kind is told; what a step around some tokens does. A drawn region whose operations from L on come behind all others, one by one, and may break what the loads ahead of them read: S is asked behind every operation ahead of L. (The walk is wip/emmac.py's '%regionU'.) step.Apply of nothing at any document. edit.Lift. (printed by gen/gen_edl.py) edit.Lift at a document. -/
import Derived.Test.YteeindicpbcjaaaGreatDoorEdAw
import Derived.Test.YteeindicpbcjaaaGreatDoorEditQ
import Derived.Test.YteeindicpbcjaaaGreatDoorHeld
import Derived.Test.YteeindicpbcjaaaGreatDoorNewA
import Derived.Test.YteeindicpbcjaaaGreatDoorPartD
import Derived.Test.YteeindicpbcjaaaGreatDoorPartner
namespace Go.Proofs.YteeindicpbcjaaaGreatDoor
open Go.RowKit
set_option linter.unusedVariables false
set_option linter.unusedSimpArgs false

theorem DoC.pure {w W : World} {A B : Option Addr} {c cb : Nat} {l : List Tok} {s : StepD} (h : DoC w A c l B cb s) (hu : Pure w W) : DoC W A c l B cb s := fun V hV => h V (hu.trans hV (fun _ _ h => h))
theorem doc_arnd {w : World} {F G : Nat → Prop} {A B : Option Addr} {c cb : Nat} {l sl : List Tok} {a b g h ins : Int} (hne : l ≠ []) (hr : tokR.row w F A l) (hlc : l.length ≤ c) (hs : tokR.row w G B sl) (hsc : sl.length ≤ cb) (hn : sl = [] → B = none ∧ cb = 0)
    (h0 : (flatCheck l).2 = 0) (h1 : stepCheck (arnd a b g h ins sl) = 0) (h2 : b ≤ l.length) : DoC w A c l B cb (arnd a b g h ins sl) := by
  obtain ⟨bA, oA, rfl⟩ := row_some hr hne
  obtain ⟨h3, hok⟩ := step_check_zero.1 h1
  obtain ⟨o1, o2, o3, o4, o5, o6, o7, _⟩ := arnd_ok.1 hok
  have hl := flat_len h0
  have h3' : sl.length ≤ 2048 := h3
  intro W hW
  obtain ⟨a, rfl⟩ := Int.eq_ofNat_of_zero_le o1
  obtain ⟨g, rfl⟩ := Int.eq_ofNat_of_zero_le (Int.le_trans o1 o2)
  obtain ⟨h, rfl⟩ := Int.eq_ofNat_of_zero_le (Int.le_trans (Int.le_trans o1 o2) (Int.le_of_lt o3))
  obtain ⟨b, rfl⟩ := Int.eq_ofNat_of_zero_le (Int.le_trans (Int.le_trans (Int.le_trans o1 o2) (Int.le_of_lt o3)) o4)
  obtain ⟨ins, rfl⟩ := Int.eq_ofNat_of_zero_le o6
  rw [arnd_do]
  simp only [Int.toNat_natCast]
  by_cases hz : sl = []
  · subst hz
    obtain ⟨rfl, rfl⟩ := hn rfl
    obtain rfl : ins = 0 := by simp at o7; omega
    have := do_arnd_none (p := a) (q := b) (g := g) (h := h) (Rp.row_pure hr hW) hlc (by omega) (by omega) (by omega) (by omega) (by omega)
    simpa using this
  · obtain ⟨bB, oB, rfl⟩ := row_some hs hz
    have := do_arnd_some (p := a) (q := b) (g := g) (h := h) (n := ins) (Rp.row_pure hr hW) hlc (Rp.row_pure hs hW) hsc (by omega) (by omega) (by omega) (by omega) (by omega) (by omega)
    rw [← List.append_assoc, ← List.append_assoc, ← List.append_assoc] at this
    exact this
theorem tell_doc {w : World} {F G : Nat → Prop} {cb : Nat} {A B : Option Addr} {c cs : Nat} {l : List Tok} {s : StepD} (h : SchR w cb houseRules houseGroups) (hr : tokR.row w F A l) (hb : l.length ≤ 1048576 * 4) (hs : tokR.row w G B s.sl) (hsb : s.sl.length ≤ 1048576 * 4)
    (hd : (flatCheck l).2 = 0 → stepCheck s = 0 → s.tt ≤ l.length → DoC w A c l B cs s) :
    Calls Tryz.prog 48 #[deskV cb A l.length c, s.val B cs] w (Told (toldS s (remapErr l s)) (toldB B (remapErr l s)) (toldC cs (remapErr l s)) (remapErr l s) w) :=
  (tell_calls (fun W hW => Do_calls (h.pure hW) (fun V hV => Apply_calls (s := s) (Rp.row_pure (Rp.row_pure hr hW) hV) (Rp.row_pure (Rp.row_pure hs hW) hV) hb hsb (fun h0 h1 h2 => ((hd h0 h1 h2).pure hW).pure hV)))).mono (fun _ _ h => ToldR.told h)
theorem Apply_doc {w : World} {F G : Nat → Prop} {A B : Option Addr} {c cs : Nat} {l : List Tok} {s : StepD} (hr : tokR.row w F A l) (hb : l.length ≤ 1048576 * 4) (hs : tokR.row w G B s.sl) (hsb : s.sl.length ≤ 1048576 * 4)
    (hd : DoC w A c l B cs s) (he : remapErr l s = 0) :
    Calls Tryz.prog 16 #[.slice A l.length c, s.val B cs] w (fun r w' => (∃ B', r = .returned (.tuple #[.slice (some B') (stepDo l s).length (stepDo l s).length, .int .i64 0]) ∧ tokR.row w' (fun k => w.heap.size ≤ k) (some B') (stepDo l s)) ∧ Pure w w') := by
  have h1 := Apply_calls (s := s) hr hs hb hsb (fun _ _ _ => hd)
  rw [(remap_step he).1] at h1
  exact h1.mono fun r w' h => DocR.zero h
end Go.Proofs.YteeindicpbcjaaaGreatDoor
namespace Go.Proofs.YteeindicpbcjaaaGreatDoor
open Go
section
variable {P : Program} {ops : Array Oper} {Q : Exit → Act → World → Prop} {md : Region.Mode} {S : World → Prop} {L : Nat}

def wpAnyU (P : Program) (md : Region.Mode) (ops : Array Oper) (Q : Exit → Act → World → Prop) (S : World → Prop) (L : Nat) : Nat → Array Bool → Act → World → Prop
  | 0, listed, a, w => Region.ready md ops listed = [] ∧ Q .normal a w
  | fuel + 1, listed, a, w =>
    (Region.ready md ops listed = [] → Q .normal a w) ∧
    ∀ i ∈ Region.ready md ops listed, wpOp P ops Q i (fun a' w' => (i < L → S w') ∧ wpAnyU P md ops Q S L fuel (listed.setIfInBounds i true) a' w') a w

theorem wpAny_of_U : ∀ (fuel : Nat) (listed : Array Bool) (a : Act) (w : World), wpAnyU P md ops Q S L fuel listed a w → wpAny P md ops Q fuel listed a w
  | 0, _, _, _, h => h
  | fuel + 1, _, _, _, h => ⟨h.1, fun i hi => wpOp_mono (fun a' w' h' => wpAny_of_U fuel _ a' w' h'.2) (h.2 i hi)⟩

theorem wpAnyU_first {i : Nat} {oi : Oper} {v : Value} (hi : ops[i]? = some oi) (hsel : ∀ (j : Nat) (o : Oper) cs b, ops[j]? = some o → o.op ≠ .select cs b)
    (hQ : ∀ c a w, Q (.panic c) (a.put oi.dst v) w → Q (.panic c) a w) (hL : ∀ j oj, ops[j]? = some oj → L ≤ j → ∃ e ∈ oj.after, Region.binds md e = true ∧ e.on = i) :
    ∀ (fuel : Nat) (listed : Array Bool) (a : Act) (w : World),
      (∀ j oj, ops[j]? = some oj → j ≠ i → listed.getD j true = false → (∀ e ∈ oj.after, Region.binds md e = true → e.on ≠ i) → oi.apart ops oj = true) →
      i ∈ Region.ready md ops listed → YieldsIf P ops S oi v a → S w →
      wpAnyU P md ops Q S L fuel (listed.setIfInBounds i true) (a.put oi.dst v) w → wpAnyU P md ops Q S L (fuel + 1) listed a w := by
  have notL : ∀ (listed : Array Bool) (j : Nat), i ∈ Region.ready md ops listed → j ∈ Region.ready md ops listed → j < L := by
    intro listed j hr hj
    rcases Nat.lt_or_ge j L with h | h
    · exact h
    exfalso
    obtain ⟨_, oj, hoj, hall⟩ := mem_ready.1 hj
    obtain ⟨e, he, hb, heq⟩ := hL j oj hoj h
    have h1 := hall e he hb
    have h0 := (mem_ready.1 hr).1
    rw [heq] at h1
    rcases Nat.lt_or_ge i listed.size with h' | h'
    · simp [h'] at h0 h1; rw [h0] at h1; cases h1
    · simp [Array.getElem?_eq_none h'] at h1
  intro fuel
  induction fuel with
  | zero =>
    intro listed a w _ hr hy hS H
    refine ⟨fun h => (by rw [h] at hr; cases hr), fun j hj => ?_⟩
    by_cases hji : j = i
    · subst hji; exact hy.wpOp hi hS ⟨fun _ => hS, H⟩
    · have := ready_mono hj hji
      rw [H.1] at this
      cases this
  | succ fuel ih =>
    intro listed a w hfree hr hy hS H
    refine ⟨fun h => (by rw [h] at hr; cases hr), fun j hj => ?_⟩
    by_cases hji : j = i
    · subst hji; exact hy.wpOp hi hS ⟨fun _ => hS, H⟩
    · have hjL := notL listed j hr hj
      have h1 := H.2 j (ready_mono hj hji)
      obtain ⟨hjun, oj, hoj, hall⟩ := mem_ready.1 hj
      have hnot : ∀ e ∈ oj.after, Region.binds md e = true → e.on ≠ i := fun e he hb heq => by
        have h1 := hall e he hb
        have h0 := (mem_ready.1 hr).1
        rw [heq] at h1
        rcases Nat.lt_or_ge i listed.size with h' | h'
        · simp [h'] at h0 h1; rw [h0] at h1; cases h1
        · simp [Array.getElem?_eq_none h'] at h1
      have h2 := wpOp_putIf hoj (hfree j oj hoj hji hjun hnot) (fun cs b => hsel i oi cs b hi) (fun cs b => hsel j oj cs b hoj) hQ hy h1
      have hfree' : ∀ k ok, ops[k]? = some ok → k ≠ i → (listed.setIfInBounds j true).getD k true = false →
          (∀ e ∈ ok.after, Region.binds md e = true → e.on ≠ i) → oi.apart ops ok = true := fun k ok hk hki hun hno => by
        refine hfree k ok hk hki ?_ hno
        by_cases hjk : j = k
        · subst hjk; exact hjun
        · rw [getD_set_ne true hjk] at hun; exact hun
      refine wpOp_mono (fun a' w' h3 => ⟨h3.2.1, ih (listed.setIfInBounds j true) a' w' hfree' (ready_mono hr (Ne.symm hji)) h3.1 (h3.2.1 hjL) ?_⟩) h2
      rw [Array.setIfInBounds_comm _ _ hji]
      exact h3.2.2

def waitsOnU (md : Region.Mode) (ops : Array Oper) (L i : Nat) : Bool := (List.range ops.size).all fun j => decide (j < L) || (match ops[j]? with
  | some o => o.after.any fun e => Region.binds md e && e.on == i
  | none => false)
theorem waitsOnU_spec {i : Nat} (h : waitsOnU md ops L i = true) : ∀ j oj, ops[j]? = some oj → L ≤ j → ∃ e ∈ oj.after, Region.binds md e = true ∧ e.on = i := by
  intro j oj hj hL
  unfold waitsOnU at h
  have h1 := List.all_eq_true.1 h j (List.mem_range.2 (Array.getElem?_eq_some_iff.1 hj).1)
  rw [hj] at h1
  have h2 : decide (j < L) = false := decide_eq_false (by omega)
  rw [h2, Bool.false_or] at h1
  obtain ⟨e, he, hb⟩ := Array.any_eq_true'.1 h1
  simp only [Bool.and_eq_true, beq_iff_eq] at hb
  exact ⟨e, he, hb.1, hb.2⟩
theorem wpAnyU_take {i : Nat} {oi : Oper} {v : Value} {fuel : Nat} {listed : Array Bool} {a : Act} {w : World} (hi : ops[i]? = some oi)
    (hs : Region.noSelect ops = true) (hf : Region.free md ops listed i = true) (hr : (Region.ready md ops listed).contains i = true) (hL : waitsOnU md ops L i = true)
    (hQ : ∀ c a w, Q (.panic c) (a.put oi.dst v) w → Q (.panic c) a w) (hy : YieldsIf P ops S oi v a) (hS : S w)
    (h : wpAnyU P md ops Q S L fuel (listed.setIfInBounds i true) (a.put oi.dst v) w) : wpAnyU P md ops Q S L (fuel + 1) listed a w :=
  wpAnyU_first hi (Region.noSelect_spec hs) hQ (waitsOnU_spec hL) fuel listed a w (Region.free_spec hi hf) (by simpa using hr) hy hS h
theorem takeU (i : Nat) {oi : Oper} {v : Value} {fuel : Nat} {listed : Array Bool} {a : Act} {w : World} (hi : ops[i]? = some oi) (hc : (okH md ops listed i && waitsOnU md ops L i) = true)
    (hQ : ∀ c a w, Q (.panic c) (a.put oi.dst v) w → Q (.panic c) a w) (h1 : Region.wanted oi (yielded ops a.tmps) = true) (h2 : ∀ w, S w → (execOp a.eval oi).run P w = .ok (.value v) w) (hS : S w)
    (h : wpAnyU P md ops Q S L fuel (listed.setIfInBounds i true) (a.put oi.dst v) w) : wpAnyU P md ops Q S L (fuel + 1) listed a w := by
  rw [Bool.and_eq_true] at hc
  exact wpAnyU_take hi (okH_iff hc.1).1 (okH_iff hc.1).2.1 (okH_iff hc.1).2.2 hc.2 hQ (Or.inl ⟨h1, h2⟩) hS h
theorem wpAnyU_one {i : Nat} {o : Oper} {fuel : Nat} {listed : Array Bool} {a : Act} {w : World} (hr : Region.ready md ops listed = [i]) (ho : ops[i]? = some o)
    (h : ∀ K' : Act → World → Prop, Shut (∀ a w, (i < L → S w) → ((i < L → S w) → wpAnyU P md ops Q S L fuel (listed.setIfInBounds i true) a w) → K' a w) → if Region.wanted o (yielded ops a.tmps) = true then Oper.wp P o a w K' Q else K' (a.put o.dst undef) w) :
    wpAnyU P md ops Q S L (fuel + 1) listed a w := by
  refine ⟨fun h => (by rw [hr] at h; cases h), fun j hj => ?_⟩
  rw [hr] at hj
  obtain rfl := List.mem_singleton.1 hj
  exact wpOp_step ho (fun K' hK => h K' (fun a w hS hW => hK a w ⟨hS, hW hS⟩))
theorem zU (i : Nat) {oi : Oper} {v : Value} {fuel : Nat} {listed : Array Bool} {a : Act} {w : World}
    (h : wpAnyU P md ops Q S L fuel (listed.setIfInBounds i true) (a.put oi.dst v) w) (hi : ops[i]? = some oi := by exact opAt rfl) (hc : (okH md ops listed i && waitsOnU md ops L i) = true := by kernel_rfl)
    (hQ : ∀ c a w, Q (.panic c) (a.put oi.dst v) w → Q (.panic c) a w := by exact fun _ _ _ h => h) (h1 : Region.wanted oi (yielded ops a.tmps) = true := by rfl)
    (h2 : ∀ w, S w → (execOp a.eval oi).run P w = .ok (.value v) w := by intro w hSw; (try dsimp only at hSw); go_simp; try with_reducible rfl) (hS : S w := by assumption) : wpAnyU P md ops Q S L (fuel + 1) listed a w :=
  takeU i hi hc hQ h1 h2 hS h
theorem oU (i : Nat) {o : Oper} {fuel : Nat} {listed : Array Bool} {a : Act} {w : World}
    (h : ∀ K' : Act → World → Prop, Shut (∀ a w, (i < L → S w) → ((i < L → S w) → wpAnyU P md ops Q S L fuel (listed.setIfInBounds i true) a w) → K' a w) → if Region.wanted o (yielded ops a.tmps) = true then Oper.wp P o a w K' Q else K' (a.put o.dst undef) w)
    (hr : Region.ready md ops listed = [i] := by kernel_rfl) (ho : ops[i]? = some o := by exact opAt rfl) : wpAnyU P md ops Q S L (fuel + 1) listed a w :=
  wpAnyU_one hr ho h
theorem wpAnyU_done {listed : Array Bool} {a : Act} {w : World} (hr : Region.ready md ops listed = []) (h : Q .normal a w) : ∀ fuel, wpAnyU P md ops Q S L fuel listed a w
  | 0 => ⟨hr, h⟩
  | _ + 1 => ⟨fun _ => h, by rw [hr]; simp⟩
theorem wp_region_U (S : World → Prop) (L : Nat) {id : Nat} {a : Act} {w : World} (hm : P.follows .mixedOrders = true) (hS : S w.drew)
    (h : S w.drew → wpAnyU P .any ops Q S L ops.size (Array.replicate ops.size false) a w.drew) : (Code.region id ops true).wp P Q a w :=
  wp_region_any hm (wpAny_of_U _ _ _ _ (h hS))
end
end Go.Proofs.YteeindicpbcjaaaGreatDoor
namespace Go.Proofs.YteeindicpbcjaaaGreatDoor
open Go.RowKit
set_option linter.unusedVariables false
set_option linter.unusedSimpArgs false

set_option maxRecDepth 100000 in
set_option maxHeartbeats 4000000 in
theorem do_zero_some {w : World} {a : Addr} {c : Nat} :
    Calls Tryz.prog 43 #[.slice (some a) 0 c, step0] w (Fresh w []) := by
  have hbox := Upd.alloc1 (fun _ => False) w (.cells #[.int .i64 0, .int .i64 0, .int .i64 0, .int .i64 0, .int .i64 0, .int .i64 0, .slice none 0 0, .int .i64 0] 27)
  have hblk := heap_alloc_new w (.cells #[.int .i64 0, .int .i64 0, .int .i64 0, .int .i64 0, .int .i64 0, .int .i64 0, .slice none 0 0, .int .i64 0] 27)
  have HT := As.mk (fun (W : World) (hu : Pure w W) (blk : Nat) (e : TypeId) (fr : Nat × Nat) (A0 A1 A2 : Option Addr) (c0 c1 c2 : Nat) (hblk : W.heap[blk]? = some (.cells #[.slice A0 0 c0, .slice A1 0 c1, .slice A2 0 c2] e fr)) => tokens3 (x0 := []) (x1 := []) (x2 := []) (F0 := fun _ => True) (F1 := fun _ => True) (F2 := fun _ => True) (by simp) W hu (blk := blk) (e := e) (fr := fr) hblk ⟨A0, c0, rfl, Nat.zero_le _, .inl rfl⟩ ⟨A1, c1, rfl, Nat.zero_le _, .inl rfl⟩ ⟨A2, c2, rfl, Nat.zero_le _, .inl rfl⟩)
  simp only [List.nil_append, List.length_nil] at HT
  have HB := As.mk hbox
  have HBK := As.mk (fun (cs : Array Value) (T : TypeId) => (by
    have h := heap_alloc_new (w.alloc (.cells #[.int .i64 0, .int .i64 0, .int .i64 0, .int .i64 0, .int .i64 0, .int .i64 0, .slice none 0 0, .int .i64 0] 27)) (.cells cs T)
    rw [World.size_alloc] at h
    exact h : (((w.alloc (.cells #[.int .i64 0, .int .i64 0, .int .i64 0, .int .i64 0, .int .i64 0, .int .i64 0, .slice none 0 0, .int .i64 0] 27)).alloc (.cells cs T)).drew).heap[w.heap.size + 1]? = some (.cells cs T (0, 0))))
  have q0 : ∀ v, Pure (w.alloc (.cells #[.int .i64 0, .int .i64 0, .int .i64 0, .int .i64 0, .int .i64 0, .int .i64 0, .slice none 0 0, .int .i64 0] 27)) v → v.cell? ⟨w.heap.size, 1, none⟩ = some (.int .i64 0) ∧ v.cell? ⟨w.heap.size, 2, none⟩ = some (.int .i64 0) ∧ v.cell? ⟨w.heap.size, 6, none⟩ = some (.slice none 0 0) := fun v hu => by
    have := (hu.block w.heap.size (by simp) (fun h => h)).trans hblk
    refine ⟨?_, ?_, ?_⟩ <;> (unfold World.cell?; simp only [this]; rfl)
  have HQ := As.mk q0
  have i2 : (0 : Int) ≤ ((c : Nat) : Int) := by omega
  clear hbox hblk q0
  go_enter Tryz.func43, Tryz.ntmps43
  go_wp2
  refine wp_region_T (P := Tryz.prog) (fun v => v.cell? ⟨w.heap.size, 1, none⟩ = some (.int .i64 0) ∧ v.cell? ⟨w.heap.size, 2, none⟩ = some (.int .i64 0) ∧ v.cell? ⟨w.heap.size, 6, none⟩ = some (.slice none 0 0)) 12 (by kernel_rfl) ?_ (fun hHeld => ?_)
  · first | exact HQ.out _ ((Upd.refl _ _).drew) | exact HQ.out _ (((Upd.refl _ _).alloc _).drew) | exact HQ.out _ ((((Upd.refl _ _).alloc _).drew).trans hu3 (fun _ _ h => h))
  refine zT 0 ?_
  refine zT 1 ?_
  refine zT 2 ?_
  refine zT 3 ?_
  (try simp only [Act.put, List.setIfInBounds_toArray, List.set_cons_zero, List.set_cons_succ])
  refine zT 4 ?_
  refine zT 5 ?_
  refine zT 6 ?_
  refine zT 7 ?_
  (try simp only [Act.put, List.setIfInBounds_toArray, List.set_cons_zero, List.set_cons_succ])
  refine zT 8 ?_
  refine zT 9 ?_
  refine oT 10 (fun K hK => ?_)
  go_simp
  refine hK.out _ _ (fun _ => by first | exact HQ.out _ ((Upd.refl _ _).drew) | exact HQ.out _ (((Upd.refl _ _).alloc _).drew) | exact HQ.out _ ((((Upd.refl _ _).alloc _).drew).trans hu3 (fun _ _ h => h))) (fun hHeld => ?_)
  replace hHeld := hHeld (by decide)
  clear hK K
  (try simp only [Act.put, List.setIfInBounds_toArray, List.set_cons_zero, List.set_cons_succ])
  refine oT 11 (fun K hK => ?_)
  go_simp
  (go_at_call 71; refine (HT.out _ ((HB.out.alloc _).drew) _ _ _ _ _ _ _ _ _ (HBK.out _ _)).mono ?_; rintro e w3 ⟨⟨B3, rfl, hrow3⟩, hu3⟩)
  refine hK.out _ _ (fun _ => by first | exact HQ.out _ ((Upd.refl _ _).drew) | exact HQ.out _ (((Upd.refl _ _).alloc _).drew) | exact HQ.out _ ((((Upd.refl _ _).alloc _).drew).trans hu3 (fun _ _ h => h))) (fun hHeld => ?_)
  replace hHeld := hHeld (by decide)
  clear hK K
  (try simp only [Act.put, List.setIfInBounds_toArray, List.set_cons_zero, List.set_cons_succ])
  refine oT 12 (fun K hK => ?_)
  go_simp
  refine hK.out _ _ (fun h => absurd rfl h) (fun hHeld => ?_)
  clear hK K
  (try simp only [Act.put, List.setIfInBounds_toArray, List.set_cons_zero, List.set_cons_succ])
  refine wpAnyT_done (by kernel_rfl) ?_ _
  go_wp2
  all_goals go_ret
  all_goals exact Fresh.of ((HB.out.alloc _).drew) rfl (by first | (simp; done) | (simp; omega)) hrow3 hu3
set_option maxRecDepth 100000 in
set_option maxHeartbeats 4000000 in
theorem do_zero_none {w : World} {c : Nat} :
    Calls Tryz.prog 43 #[.slice none 0 c, step0] w (Fresh w []) := by
  have hbox := Upd.alloc1 (fun _ => False) w (.cells #[.int .i64 0, .int .i64 0, .int .i64 0, .int .i64 0, .int .i64 0, .int .i64 0, .slice none 0 0, .int .i64 0] 27)
  have hblk := heap_alloc_new w (.cells #[.int .i64 0, .int .i64 0, .int .i64 0, .int .i64 0, .int .i64 0, .int .i64 0, .slice none 0 0, .int .i64 0] 27)
  have HT := As.mk (fun (W : World) (hu : Pure w W) (blk : Nat) (e : TypeId) (fr : Nat × Nat) (A0 A1 A2 : Option Addr) (c0 c1 c2 : Nat) (hblk : W.heap[blk]? = some (.cells #[.slice A0 0 c0, .slice A1 0 c1, .slice A2 0 c2] e fr)) => tokens3 (x0 := []) (x1 := []) (x2 := []) (F0 := fun _ => True) (F1 := fun _ => True) (F2 := fun _ => True) (by simp) W hu (blk := blk) (e := e) (fr := fr) hblk ⟨A0, c0, rfl, Nat.zero_le _, .inl rfl⟩ ⟨A1, c1, rfl, Nat.zero_le _, .inl rfl⟩ ⟨A2, c2, rfl, Nat.zero_le _, .inl rfl⟩)
  simp only [List.nil_append, List.length_nil] at HT
  have HB := As.mk hbox
  have HBK := As.mk (fun (cs : Array Value) (T : TypeId) => (by
    have h := heap_alloc_new (w.alloc (.cells #[.int .i64 0, .int .i64 0, .int .i64 0, .int .i64 0, .int .i64 0, .int .i64 0, .slice none 0 0, .int .i64 0] 27)) (.cells cs T)
    rw [World.size_alloc] at h
    exact h : (((w.alloc (.cells #[.int .i64 0, .int .i64 0, .int .i64 0, .int .i64 0, .int .i64 0, .int .i64 0, .slice none 0 0, .int .i64 0] 27)).alloc (.cells cs T)).drew).heap[w.heap.size + 1]? = some (.cells cs T (0, 0))))
  have q0 : ∀ v, Pure (w.alloc (.cells #[.int .i64 0, .int .i64 0, .int .i64 0, .int .i64 0, .int .i64 0, .int .i64 0, .slice none 0 0, .int .i64 0] 27)) v → v.cell? ⟨w.heap.size, 1, none⟩ = some (.int .i64 0) ∧ v.cell? ⟨w.heap.size, 2, none⟩ = some (.int .i64 0) ∧ v.cell? ⟨w.heap.size, 6, none⟩ = some (.slice none 0 0) := fun v hu => by
    have := (hu.block w.heap.size (by simp) (fun h => h)).trans hblk
    refine ⟨?_, ?_, ?_⟩ <;> (unfold World.cell?; simp only [this]; rfl)
  have HQ := As.mk q0
  have i2 : (0 : Int) ≤ ((c : Nat) : Int) := by omega
  clear hbox hblk q0
  go_enter Tryz.func43, Tryz.ntmps43
  go_wp2
  refine wp_region_T (P := Tryz.prog) (fun v => v.cell? ⟨w.heap.size, 1, none⟩ = some (.int .i64 0) ∧ v.cell? ⟨w.heap.size, 2, none⟩ = some (.int .i64 0) ∧ v.cell? ⟨w.heap.size, 6, none⟩ = some (.slice none 0 0)) 12 (by kernel_rfl) ?_ (fun hHeld => ?_)
  · first | exact HQ.out _ ((Upd.refl _ _).drew) | exact HQ.out _ (((Upd.refl _ _).alloc _).drew) | exact HQ.out _ ((((Upd.refl _ _).alloc _).drew).trans hu3 (fun _ _ h => h))
  refine zT 0 ?_
  refine zT 1 ?_
  refine zT 2 ?_
  (try simp only [Act.put, List.setIfInBounds_toArray, List.set_cons_zero, List.set_cons_succ])
  refine zT 3 ?_
  refine zT 4 ?_
  refine zT 5 ?_
  refine zT 6 ?_
  (try simp only [Act.put, List.setIfInBounds_toArray, List.set_cons_zero, List.set_cons_succ])
  refine zT 7 ?_
  refine zT 8 ?_
  refine zT 9 ?_
  refine oT 10 (fun K hK => ?_)
  go_simp
  refine hK.out _ _ (fun _ => by first | exact HQ.out _ ((Upd.refl _ _).drew) | exact HQ.out _ (((Upd.refl _ _).alloc _).drew) | exact HQ.out _ ((((Upd.refl _ _).alloc _).drew).trans hu3 (fun _ _ h => h))) (fun hHeld => ?_)
  replace hHeld := hHeld (by decide)
  clear hK K
  (try simp only [Act.put, List.setIfInBounds_toArray, List.set_cons_zero, List.set_cons_succ])
  refine oT 11 (fun K hK => ?_)
  go_simp
  (go_at_call 71; refine (HT.out _ ((HB.out.alloc _).drew) _ _ _ _ _ _ _ _ _ (HBK.out _ _)).mono ?_; rintro e w3 ⟨⟨B3, rfl, hrow3⟩, hu3⟩)
  refine hK.out _ _ (fun _ => by first | exact HQ.out _ ((Upd.refl _ _).drew) | exact HQ.out _ (((Upd.refl _ _).alloc _).drew) | exact HQ.out _ ((((Upd.refl _ _).alloc _).drew).trans hu3 (fun _ _ h => h))) (fun hHeld => ?_)
  replace hHeld := hHeld (by decide)
  clear hK K
  (try simp only [Act.put, List.setIfInBounds_toArray, List.set_cons_zero, List.set_cons_succ])
  refine oT 12 (fun K hK => ?_)
  go_simp
  refine hK.out _ _ (fun h => absurd rfl h) (fun hHeld => ?_)
  clear hK K
  (try simp only [Act.put, List.setIfInBounds_toArray, List.set_cons_zero, List.set_cons_succ])
  refine wpAnyT_done (by kernel_rfl) ?_ _
  go_wp2
  all_goals go_ret
  all_goals exact Fresh.of ((HB.out.alloc _).drew) rfl (by first | (simp; done) | (simp; omega)) hrow3 hu3
theorem do_zero {w : World} {A : Option Addr} {c : Nat} : Calls Tryz.prog 43 #[.slice A 0 c, step0] w (Fresh w []) := by
  cases A with
  | none => exact do_zero_none
  | some a => exact do_zero_some
/-- Nothing, at any document: an answer, and nothing is changed. -/
theorem Apply_zero {w : World} {F : Nat → Prop} {A : Option Addr} {c : Nat} {l : List Tok} (hr : tokR.row w F A l) (hlc : l.length ≤ c) (hb : l.length ≤ 1048576 * 4) :
    Calls Tryz.prog 16 #[.slice A l.length c, step0] w (fun r w' => (∃ v e, r = .returned (.tuple #[v, .int .i64 e])) ∧ Pure w w') := by
  have main : Calls Tryz.prog 16 #[.slice A l.length c, step0] w (DocR w (stepDo l (repl 0 0 [])) (stepErr l (repl 0 0 []))) := by
    by_cases hne : l = []
    · subst hne
      exact Apply_calls (G := fun _ => True) (B := none) (cb := 0) (s := repl 0 0 []) hr (.inl rfl) hb (by simp [repl]) (fun _ _ _ W hW => do_zero)
    · exact Apply_repl (f := 0) (t := 0) (sl := []) (B := none) (cb := 0) (G := fun _ => True) hne hr hlc hb (.inl rfl) (Nat.le_refl _) (by simp)
  refine main.mono ?_
  rintro r w' ⟨⟨_, B, rfl, _⟩ | ⟨_, rfl⟩, hu⟩
  · exact ⟨⟨_, _, rfl⟩, hu⟩
  · exact ⟨⟨_, _, rfl⟩, hu⟩
end Go.Proofs.YteeindicpbcjaaaGreatDoor
namespace Go.Proofs.YteeindicpbcjaaaGreatDoor
open Go.RowKit
set_option linter.unusedVariables false
set_option linter.unusedSimpArgs false

set_option maxRecDepth 100000 in
set_option maxHeartbeats 4000000 in
theorem Lift_no {w : World} {F : Nat → Prop} {cb : Nat} {A : Option Addr} {c b q : Nat} {l : List Tok} {p pe al ab pb pq e : Int} {y : Tok} {s' : StepD} (hrow : tokR.row w F A l) (hlc : l.length ≤ c) (hb : l.length ≤ 1048576 * 4)
    (hp : ∀ W, Pure w W → Calls Tryz.prog 38 #[deskV cb A l.length c, .int .i64 p, .int .i64 p] W (fun r w' => r = .returned (.int .i64 pe) ∧ Pure W w'))
    (ha1 : ∀ W, Pure w W → Calls Tryz.prog 20 #[.slice A l.length c, .int .i64 p] W (fun r w' => r = .returned (.int .i64 al) ∧ Pure W w'))
    (ha2 : ∀ W, Pure w W → Calls Tryz.prog 20 #[.slice A l.length c, .int .i64 al] W (fun r w' => r = .returned (.int .i64 ab) ∧ Pure W w'))
    (hn : (pe ≠ 0 ∧ e = pe) ∨ (pe = 0 ∧ al < 0 ∧ e = 6) ∨ (pe = 0 ∧ 0 ≤ al ∧ ab < 0 ∧ e = 6)) (hs : s' = repl 0 0 []) :
    Calls Tryz.prog 25 #[.pointer (some ⟨cb, 0, none⟩), .slice A l.length c, .int .i64 p] w (fun r w' => ∃ B' c', Told s' B' c' e w r w' ∧ (tokR.row w' (fun k => w.heap.size ≤ k) B' s'.sl ∧ s'.sl.length ≤ c' ∧ (s'.sl = [] → B' = none ∧ c' = 0)) ∧ (e ≠ 0 → B' = none ∧ c' = 0)) := by
  subst hs
  have HP := As.mk hp
  have HA1 := As.mk ha1
  have HA2 := As.mk ha2
  clear hp ha1 ha2 hrow
  unfold Told StepD.val at *
  rcases hn with ⟨p0, rfl⟩ | ⟨rfl, a0, rfl⟩ | ⟨rfl, a0, a1, rfl⟩
  · have f0 : (e != 0) = true := by simpa using p0
    clear p0
    go_enter Tryz.func25, Tryz.ntmps25
    go_wp2_with (first | (go_at_call 39; refine (refuse_calls _).mono ?_; rintro r w2 ⟨rfl, hu⟩; have HB2 := As.mk ((hu.block w.heap.size (lt_of_block HB1.out) (fun h => h)).trans HB1.out); have HU2 := As.mk (HU1.out.trans hu (fun _ _ h => h)); clear hu; apply As.out) | (go_at_call 38; refine (HP.out _ ((Upd.alloc1 (fun _ => False) _ _).alloc _)).mono ?_; rintro r w1 ⟨rfl, hu⟩; obtain ⟨hb1, hb2, hu2⟩ := two_up hu; obtain ⟨q0, q1⟩ := cells2 hb2; have HB1 := As.mk hb1; have HQ1 := As.mk hb2; have HU1 := As.mk hu2; clear hu hb1 hb2 hu2))
    refine ⟨?_⟩
    have hbl : w.heap.size < w2.heap.size := (Array.getElem?_eq_some_iff.1 HB2.out).1
    have hcf : ∀ i, w2.frozen? ⟨w.heap.size, i, none⟩ = false := fun i => by simp [World.frozen?, HB2.out]
    obtain ⟨k0, k1, k2, k3, k4, k5, k6, k7⟩ := cells8 HB2.out
    go_wp2
    exact bodyPost_ret (step_end (rb := w.heap.size) rfl _ rfl (set8 (rb := w.heap.size) HB2.out _ _ _ _ _ _ _ _)) rfl ⟨none, 0, ⟨rfl, set8_pure HU2.out (Nat.le_refl _) _ _ _ _ _ _ _ _⟩, ⟨.inl rfl, Nat.zero_le _, fun _ => ⟨rfl, rfl⟩⟩, fun _ => ⟨rfl, rfl⟩⟩
  · go_enter Tryz.func25, Tryz.ntmps25
    go_wp2_with (first | (go_at_call 39; refine (refuse_calls _).mono ?_; rintro r w2 ⟨rfl, hu⟩; have HB2 := As.mk ((hu.block w.heap.size (lt_of_block HBa.out) (fun h => h)).trans HBa.out); have HU2 := As.mk (HUa.out.trans hu (fun _ _ h => h)); clear hu; apply As.out) | (go_at_call 20; with_reducible refine (HA1.out w1 HU1.out).mono ?_; rintro r wa ⟨rfl, hu⟩; have HBa := As.mk ((hu.block w.heap.size (lt_of_block HB1.out) (fun h => h)).trans HB1.out); have HQa := As.mk ((hu.block (w.heap.size + 1) (lt_of_block HQ1.out) (fun h => h)).trans HQ1.out); have qa := cells2 HQa.out; have HUa := As.mk (HU1.out.trans hu (fun _ _ h => h)); clear hu) | (go_at_call 38; refine (HP.out _ ((Upd.alloc1 (fun _ => False) _ _).alloc _)).mono ?_; rintro r w1 ⟨rfl, hu⟩; obtain ⟨hb1, hb2, hu2⟩ := two_up hu; obtain ⟨q0, q1⟩ := cells2 hb2; have HB1 := As.mk hb1; have HQ1 := As.mk hb2; have HU1 := As.mk hu2; clear hu hb1 hb2 hu2))
    refine ⟨?_⟩
    have hbl : w.heap.size < w2.heap.size := (Array.getElem?_eq_some_iff.1 HB2.out).1
    have hcf : ∀ i, w2.frozen? ⟨w.heap.size, i, none⟩ = false := fun i => by simp [World.frozen?, HB2.out]
    obtain ⟨k0, k1, k2, k3, k4, k5, k6, k7⟩ := cells8 HB2.out
    go_wp2
    exact bodyPost_ret (step_end (rb := w.heap.size) rfl _ rfl (set8 (rb := w.heap.size) HB2.out _ _ _ _ _ _ _ _)) rfl ⟨none, 0, ⟨rfl, set8_pure HU2.out (Nat.le_refl _) _ _ _ _ _ _ _ _⟩, ⟨.inl rfl, Nat.zero_le _, fun _ => ⟨rfl, rfl⟩⟩, fun _ => ⟨rfl, rfl⟩⟩
  · have a0' : ¬ al < 0 := by omega
    go_enter Tryz.func25, Tryz.ntmps25
    go_wp2_with (first | (go_at_call 39; refine (refuse_calls _).mono ?_; rintro r w2 ⟨rfl, hu⟩; have HB2 := As.mk ((hu.block w.heap.size (lt_of_block HBb.out) (fun h => h)).trans HBb.out); have HU2 := As.mk (HUb.out.trans hu (fun _ _ h => h)); clear hu; apply As.out) | (go_at_call 20; with_reducible refine (HA2.out wa HUa.out).mono ?_; rintro r wb ⟨rfl, hu⟩; have HBb := As.mk ((hu.block w.heap.size (lt_of_block HBa.out) (fun h => h)).trans HBa.out); have HQb := As.mk ((hu.block (w.heap.size + 1) (lt_of_block HQa.out) (fun h => h)).trans HQa.out); have qb := cells2 HQb.out; have HUb := As.mk (HUa.out.trans hu (fun _ _ h => h)); clear hu) | (go_at_call 20; with_reducible refine (HA1.out w1 HU1.out).mono ?_; rintro r wa ⟨rfl, hu⟩; have HBa := As.mk ((hu.block w.heap.size (lt_of_block HB1.out) (fun h => h)).trans HB1.out); have HQa := As.mk ((hu.block (w.heap.size + 1) (lt_of_block HQ1.out) (fun h => h)).trans HQ1.out); have qa := cells2 HQa.out; have HUa := As.mk (HU1.out.trans hu (fun _ _ h => h)); clear hu) | (go_at_call 38; refine (HP.out _ ((Upd.alloc1 (fun _ => False) _ _).alloc _)).mono ?_; rintro r w1 ⟨rfl, hu⟩; obtain ⟨hb1, hb2, hu2⟩ := two_up hu; obtain ⟨q0, q1⟩ := cells2 hb2; have HB1 := As.mk hb1; have HQ1 := As.mk hb2; have HU1 := As.mk hu2; clear hu hb1 hb2 hu2))
    refine ⟨?_⟩
    have hbl : w.heap.size < w2.heap.size := (Array.getElem?_eq_some_iff.1 HB2.out).1
    have hcf : ∀ i, w2.frozen? ⟨w.heap.size, i, none⟩ = false := fun i => by simp [World.frozen?, HB2.out]
    obtain ⟨k0, k1, k2, k3, k4, k5, k6, k7⟩ := cells8 HB2.out
    go_wp2
    exact bodyPost_ret (step_end (rb := w.heap.size) rfl _ rfl (set8 (rb := w.heap.size) HB2.out _ _ _ _ _ _ _ _)) rfl ⟨none, 0, ⟨rfl, set8_pure HU2.out (Nat.le_refl _) _ _ _ _ _ _ _ _⟩, ⟨.inl rfl, Nat.zero_le _, fun _ => ⟨rfl, rfl⟩⟩, fun _ => ⟨rfl, rfl⟩⟩
theorem tolds {W : World} {G : Nat → Prop} {A : Option Addr} {c : Nat} {e : Int} {sl text : List Tok} (h2 : e = 0 → sl = text) (h3 : e ≠ 0 → sl = []) (hr : tokR.row W G A text) (hc : text.length ≤ c) (hz : text = [] → A = none ∧ c = 0) : tokR.row W G (toldB A e) sl ∧ sl.length ≤ toldC c e ∧ (sl = [] → toldB A e = none ∧ toldC c e = 0) := by
  obtain ⟨h4, h5⟩ := told_row h2 h3 hr hc
  refine ⟨h4, h5, fun h => ?_⟩
  unfold toldB toldC
  by_cases h0 : e = 0
  · rw [if_pos h0, if_pos h0]
    rw [h2 h0] at h
    exact hz h
  · rw [if_neg h0, if_neg h0]
    exact ⟨rfl, rfl⟩
set_option maxRecDepth 100000 in
set_option maxHeartbeats 4000000 in
theorem Lift_ff {w : World} {F : Nat → Prop} {cb : Nat} {A : Option Addr} {c b q : Nat} {l : List Tok} {p pe al ab pb pq e : Int} {y : Tok} {s' : StepD} (hrow : tokR.row w F A l) (hlc : l.length ≤ c) (hb : l.length ≤ 1048576 * 4)
    (hp : ∀ W, Pure w W → Calls Tryz.prog 38 #[deskV cb A l.length c, .int .i64 p, .int .i64 p] W (fun r w' => r = .returned (.int .i64 pe) ∧ Pure W w'))
    (ha1 : ∀ W, Pure w W → Calls Tryz.prog 20 #[.slice A l.length c, .int .i64 p] W (fun r w' => r = .returned (.int .i64 al) ∧ Pure W w'))
    (ha2 : ∀ W, Pure w W → Calls Tryz.prog 20 #[.slice A l.length c, .int .i64 al] W (fun r w' => r = .returned (.int .i64 ab) ∧ Pure W w'))
    (hp1 : ∀ W, Pure w W → Calls Tryz.prog 23 #[.slice A l.length c, .int .i64 (b : Nat)] W (fun r w' => r = .returned (.int .i64 pb) ∧ Pure W w'))
    (hp2 : ∀ W, Pure w W → Calls Tryz.prog 23 #[.slice A l.length c, .int .i64 (q : Nat)] W (fun r w' => r = .returned (.int .i64 pq) ∧ Pure W w'))
    (p0 : pe = 0) (hal : al = (b : Int)) (hab : ab = (q : Int)) (hbl : b < l.length) (hy : l[q]? = some y) (hpb : -1 ≤ pb ∧ pb < l.length) (hpq : -1 ≤ pq ∧ pq < l.length)
    (hf : (b : Int) = (q : Int) + 1) (hl : pb + 1 = pq)
    (hr : ∀ V A1 c1, Pure w V → tokR.row V (fun _ => True) A1 [] → ([] : List Tok).length ≤ c1 → (([] : List Tok) = [] → A1 = none ∧ c1 = 0) → Calls Tryz.prog 48 #[deskV cb A l.length c, (arnd q (pq + 1) b (pb + 1) 0 []).val A1 c1] V (Told s' (toldB A1 e) (toldC c1 e) e V))
    (h2 : e = 0 → s'.sl = []) (h3 : e ≠ 0 → s'.sl = []) :
    Calls Tryz.prog 25 #[.pointer (some ⟨cb, 0, none⟩), .slice A l.length c, .int .i64 p] w (fun r w' => ∃ B' c', Told s' B' c' e w r w' ∧ (tokR.row w' (fun k => w.heap.size ≤ k) B' s'.sl ∧ s'.sl.length ≤ c' ∧ (s'.sl = [] → B' = none ∧ c' = 0)) ∧ (e ≠ 0 → B' = none ∧ c' = 0)) := by
  have HP := As.mk hp
  have HA1 := As.mk ha1
  have HA2 := As.mk ha2
  have HP1 := As.mk hp1
  have HP2 := As.mk hp2
  have HR := As.mk hr
  have HT := As.mk (And.intro h2 h3)
  have hw1 : IntKind.i64.wrap ((q : Int) + 1) = (q : Int) + 1 := IntWalk.i64_in _ (by have := (List.getElem?_eq_some_iff.1 hy).1; omega)
  have hw2 : IntKind.i64.wrap (pb + 1) = pb + 1 := IntWalk.i64_in _ (by omega)
  have hw3 : IntKind.i64.wrap (pq + 1) = pq + 1 := IntWalk.i64_in _ (by omega)
  have gb : ¬ ((b : Int) < 0) := by omega
  have gq : ¬ ((q : Int) < 0) := by omega
  obtain ⟨bA, oA, rfl, hF, hbA, c0, c1, c2, c3⟩ := tok_at hrow hy
  have HBA := As.mk hbA
  have HCS := As.mk (And.intro c0 (And.intro c1 (And.intro c2 c3)))
  have ql : q < l.length := (List.getElem?_eq_some_iff.1 hy).1
  subst p0 hal hab
  have jf : ((b : Int) == (q : Int) + 1) = true := by simpa using hf
  have jl : (pb + 1 == pq) = true := by simpa using hl
  clear hf hl
  clear hp ha1 ha2 hp1 hp2 hr h2 h3 hrow hy hpb hpq hF hbA c0 c1 c2 c3
  unfold Told StepD.val arnd at *
  go_enter Tryz.func25, Tryz.ntmps25
  go_wp2_with (first | (go_at_call 48; refine (HR.out (wd.alloc _) none 0 (HUd.out.alloc _) (.inl rfl) (Nat.le_refl _) (fun _ => ⟨rfl, rfl⟩)).mono ?_; rintro r w2 ⟨rfl, hu⟩; obtain ⟨_, hu2⟩ := one_up hu; have HB2 := As.mk ((hu2.block w.heap.size (lt_of_block HBd.out) (fun h => h)).trans HBd.out); have HU2 := As.mk (HUd.out.trans hu2 (fun _ _ h => h)); have HR2 := As.mk (Rp.row_nil tokR w2 (fun k => w.heap.size < k) none); clear hu hu2; apply As.out) | (go_at_call 23; with_reducible refine (HP2.out wc HUc.out).mono ?_; rintro r wd ⟨rfl, hu⟩; have HBd := As.mk ((hu.block w.heap.size (lt_of_block HBc.out) (fun h => h)).trans HBc.out); have HQd := As.mk ((hu.block (w.heap.size + 1) (lt_of_block HQc.out) (fun h => h)).trans HQc.out); have qd := cells2 HQd.out; have HUd := As.mk (HUc.out.trans hu (fun _ _ h => h)); clear hu; have hbd : w.heap.size + 1 < wd.heap.size := lt_of_block HQd.out; obtain ⟨qd0, qd1⟩ := qd) | (go_at_call 23; with_reducible refine (HP1.out wb HUb.out).mono ?_; rintro r wc ⟨rfl, hu⟩; have HBc := As.mk ((hu.block w.heap.size (lt_of_block HBb.out) (fun h => h)).trans HBb.out); have HQc := As.mk ((hu.block (w.heap.size + 1) (lt_of_block HQb.out) (fun h => h)).trans HQb.out); have qc := cells2 HQc.out; have HUc := As.mk (HUb.out.trans hu (fun _ _ h => h)); clear hu) | (go_at_call 20; with_reducible refine (HA2.out wa HUa.out).mono ?_; rintro r wb ⟨rfl, hu⟩; have HBb := As.mk ((hu.block w.heap.size (lt_of_block HBa.out) (fun h => h)).trans HBa.out); have HQb := As.mk ((hu.block (w.heap.size + 1) (lt_of_block HQa.out) (fun h => h)).trans HQa.out); have qb := cells2 HQb.out; have HUb := As.mk (HUa.out.trans hu (fun _ _ h => h)); clear hu) | (go_at_call 20; with_reducible refine (HA1.out w1 HU1.out).mono ?_; rintro r wa ⟨rfl, hu⟩; have HBa := As.mk ((hu.block w.heap.size (lt_of_block HB1.out) (fun h => h)).trans HB1.out); have HQa := As.mk ((hu.block (w.heap.size + 1) (lt_of_block HQ1.out) (fun h => h)).trans HQ1.out); have qa := cells2 HQa.out; have HUa := As.mk (HU1.out.trans hu (fun _ _ h => h)); clear hu) | (go_at_call 38; refine (HP.out _ ((Upd.alloc1 (fun _ => False) _ _).alloc _)).mono ?_; rintro r w1 ⟨rfl, hu⟩; obtain ⟨hb1, hb2, hu2⟩ := two_up hu; obtain ⟨q0, q1⟩ := cells2 hb2; have HB1 := As.mk hb1; have HQ1 := As.mk hb2; have HU1 := As.mk hu2; clear hu hb1 hb2 hu2))
  refine ⟨?_⟩
  have hbl : w.heap.size < w2.heap.size := (Array.getElem?_eq_some_iff.1 HB2.out).1
  have hcf : ∀ i, w2.frozen? ⟨w.heap.size, i, none⟩ = false := fun i => by simp [World.frozen?, HB2.out]
  obtain ⟨k0, k1, k2, k3, k4, k5, k6, k7⟩ := cells8 HB2.out
  go_wp2
  exact bodyPost_ret (step_end (rb := w.heap.size) rfl _ rfl (set8 (rb := w.heap.size) HB2.out _ _ _ _ _ _ _ _)) rfl ⟨_, _, ⟨rfl, set8_pure HU2.out (Nat.le_refl _) _ _ _ _ _ _ _ _⟩, tolds (e := e) HT.out.1 HT.out.2 (Rp.row_fp (G := fun k => w.heap.size ≤ k) (Rp.row_upd HR2.out (set8_upd (Upd.refl _ _) _ _ _ _ _ _ _ _) (fun k _ h e => by omega)) (fun _ h => by (try have h8 := HL.out); omega)) (Nat.le_refl 0) (fun _ => ⟨rfl, rfl⟩), fun h => ⟨if_neg h, if_neg h⟩⟩
set_option maxRecDepth 100000 in
set_option maxHeartbeats 4000000 in
theorem Lift_fn {w : World} {F : Nat → Prop} {cb : Nat} {A : Option Addr} {c b q : Nat} {l : List Tok} {p pe al ab pb pq e : Int} {y : Tok} {s' : StepD} (hrow : tokR.row w F A l) (hlc : l.length ≤ c) (hb : l.length ≤ 1048576 * 4)
    (hp : ∀ W, Pure w W → Calls Tryz.prog 38 #[deskV cb A l.length c, .int .i64 p, .int .i64 p] W (fun r w' => r = .returned (.int .i64 pe) ∧ Pure W w'))
    (ha1 : ∀ W, Pure w W → Calls Tryz.prog 20 #[.slice A l.length c, .int .i64 p] W (fun r w' => r = .returned (.int .i64 al) ∧ Pure W w'))
    (ha2 : ∀ W, Pure w W → Calls Tryz.prog 20 #[.slice A l.length c, .int .i64 al] W (fun r w' => r = .returned (.int .i64 ab) ∧ Pure W w'))
    (hp1 : ∀ W, Pure w W → Calls Tryz.prog 23 #[.slice A l.length c, .int .i64 (b : Nat)] W (fun r w' => r = .returned (.int .i64 pb) ∧ Pure W w'))
    (hp2 : ∀ W, Pure w W → Calls Tryz.prog 23 #[.slice A l.length c, .int .i64 (q : Nat)] W (fun r w' => r = .returned (.int .i64 pq) ∧ Pure W w'))
    (p0 : pe = 0) (hal : al = (b : Int)) (hab : ab = (q : Int)) (hbl : b < l.length) (hy : l[q]? = some y) (hpb : -1 ≤ pb ∧ pb < l.length) (hpq : -1 ≤ pq ∧ pq < l.length)
    (hf : (b : Int) = (q : Int) + 1) (hl : pb + 1 ≠ pq)
    (hr : ∀ V A1 c1, Pure w V → tokR.row V (fun _ => True) A1 [y] → ([y] : List Tok).length ≤ c1 → (([y] : List Tok) = [] → A1 = none ∧ c1 = 0) → Calls Tryz.prog 48 #[deskV cb A l.length c, (arnd q (pb + 1) b (pb + 1) 0 [y]).val A1 c1] V (Told s' (toldB A1 e) (toldC c1 e) e V))
    (h2 : e = 0 → s'.sl = [y]) (h3 : e ≠ 0 → s'.sl = []) :
    Calls Tryz.prog 25 #[.pointer (some ⟨cb, 0, none⟩), .slice A l.length c, .int .i64 p] w (fun r w' => ∃ B' c', Told s' B' c' e w r w' ∧ (tokR.row w' (fun k => w.heap.size ≤ k) B' s'.sl ∧ s'.sl.length ≤ c' ∧ (s'.sl = [] → B' = none ∧ c' = 0)) ∧ (e ≠ 0 → B' = none ∧ c' = 0)) := by
  have HP := As.mk hp
  have HA1 := As.mk ha1
  have HA2 := As.mk ha2
  have HP1 := As.mk hp1
  have HP2 := As.mk hp2
  have HR := As.mk hr
  have HT := As.mk (And.intro h2 h3)
  have hw1 : IntKind.i64.wrap ((q : Int) + 1) = (q : Int) + 1 := IntWalk.i64_in _ (by have := (List.getElem?_eq_some_iff.1 hy).1; omega)
  have hw2 : IntKind.i64.wrap (pb + 1) = pb + 1 := IntWalk.i64_in _ (by omega)
  have hw3 : IntKind.i64.wrap (pq + 1) = pq + 1 := IntWalk.i64_in _ (by omega)
  have gb : ¬ ((b : Int) < 0) := by omega
  have gq : ¬ ((q : Int) < 0) := by omega
  obtain ⟨bA, oA, rfl, hF, hbA, c0, c1, c2, c3⟩ := tok_at hrow hy
  have HBA := As.mk hbA
  have HCS := As.mk (And.intro c0 (And.intro c1 (And.intro c2 c3)))
  have ql : q < l.length := (List.getElem?_eq_some_iff.1 hy).1
  subst p0 hal hab
  have jf : ((b : Int) == (q : Int) + 1) = true := by simpa using hf
  have jl : (pb + 1 == pq) = false := by simpa using hl
  clear hf hl
  clear hp ha1 ha2 hp1 hp2 hr h2 h3 hrow hy hpb hpq hF hbA c0 c1 c2 c3
  unfold Told StepD.val arnd at *
  go_enter Tryz.func25, Tryz.ntmps25
  go_wp2_with (first | (go_at_call 23; with_reducible refine (HP2.out wc HUc.out).mono ?_; rintro r wd ⟨rfl, hu⟩; have HBd := As.mk ((hu.block w.heap.size (lt_of_block HBc.out) (fun h => h)).trans HBc.out); have HQd := As.mk ((hu.block (w.heap.size + 1) (lt_of_block HQc.out) (fun h => h)).trans HQc.out); have qd := cells2 HQd.out; have HUd := As.mk (HUc.out.trans hu (fun _ _ h => h)); clear hu; have hbd : w.heap.size + 1 < wd.heap.size := lt_of_block HQd.out; obtain ⟨qd0, qd1⟩ := qd) | (go_at_call 23; with_reducible refine (HP1.out wb HUb.out).mono ?_; rintro r wc ⟨rfl, hu⟩; have HBc := As.mk ((hu.block w.heap.size (lt_of_block HBb.out) (fun h => h)).trans HBb.out); have HQc := As.mk ((hu.block (w.heap.size + 1) (lt_of_block HQb.out) (fun h => h)).trans HQb.out); have qc := cells2 HQc.out; have HUc := As.mk (HUb.out.trans hu (fun _ _ h => h)); clear hu) | (go_at_call 20; with_reducible refine (HA2.out wa HUa.out).mono ?_; rintro r wb ⟨rfl, hu⟩; have HBb := As.mk ((hu.block w.heap.size (lt_of_block HBa.out) (fun h => h)).trans HBa.out); have HQb := As.mk ((hu.block (w.heap.size + 1) (lt_of_block HQa.out) (fun h => h)).trans HQa.out); have qb := cells2 HQb.out; have HUb := As.mk (HUa.out.trans hu (fun _ _ h => h)); clear hu) | (go_at_call 20; with_reducible refine (HA1.out w1 HU1.out).mono ?_; rintro r wa ⟨rfl, hu⟩; have HBa := As.mk ((hu.block w.heap.size (lt_of_block HB1.out) (fun h => h)).trans HB1.out); have HQa := As.mk ((hu.block (w.heap.size + 1) (lt_of_block HQ1.out) (fun h => h)).trans HQ1.out); have qa := cells2 HQa.out; have HUa := As.mk (HU1.out.trans hu (fun _ _ h => h)); clear hu) | (go_at_call 38; refine (HP.out _ ((Upd.alloc1 (fun _ => False) _ _).alloc _)).mono ?_; rintro r w1 ⟨rfl, hu⟩; obtain ⟨hb1, hb2, hu2⟩ := two_up hu; obtain ⟨q0, q1⟩ := cells2 hb2; have HB1 := As.mk hb1; have HQ1 := As.mk hb2; have HU1 := As.mk hu2; clear hu hb1 hb2 hu2))
  have HB9 := As.mk (heap_alloc_new wd (.cells #[.int .i64 1, .int .i64 (q : Nat), .int .i64 (pb + 1), .int .i64 (b : Nat), .int .i64 (pb + 1), .int .i64 0, .slice none 0 0, .int .i64 0] 27))
  have HU9 := As.mk (HUd.out.alloc (.cells #[.int .i64 1, .int .i64 (q : Nat), .int .i64 (pb + 1), .int .i64 (b : Nat), .int .i64 (pb + 1), .int .i64 0, .slice none 0 0, .int .i64 0] 27))
  have HQ9 := As.mk ((Below.heap_alloc wd (.cells #[.int .i64 1, .int .i64 (q : Nat), .int .i64 (pb + 1), .int .i64 (b : Nat), .int .i64 (pb + 1), .int .i64 0, .slice none 0 0, .int .i64 0] 27) _ (lt_of_block HQd.out)).trans HQd.out)
  have HW9 := As.mk ((Below.heap_alloc wd (.cells #[.int .i64 1, .int .i64 (q : Nat), .int .i64 (pb + 1), .int .i64 (b : Nat), .int .i64 (pb + 1), .int .i64 0, .slice none 0 0, .int .i64 0] 27) _ (lt_of_block HBd.out)).trans HBd.out)
  have HL9 := As.mk (show w.heap.size + 1 < wd.heap.size from lt_of_block HQd.out)
  have HL := HL9
  generalize wd.alloc (.cells #[.int .i64 1, .int .i64 (q : Nat), .int .i64 (pb + 1), .int .i64 (b : Nat), .int .i64 (pb + 1), .int .i64 0, .slice none 0 0, .int .i64 0] 27) = v9 at *
  generalize wd.heap.size = sb at *
  have HO9 := As.mk (show tokR.own 40 v9 (fun k => sb < k) (.slice none 0 0) [] from Rp.own_nil _ _ _ _)
  have HK6 := As.mk (fun v (hb : v.heap[sb]? = v9.heap[sb]?) (hu : Pure w v) => (by
    obtain ⟨e0, e1, e2, e3⟩ := HCS.out
    have hh : ∀ k, v.cell? ⟨bA, k, none⟩ = w.cell? ⟨bA, k, none⟩ := fun k => hu.cell HBA.out (fun h => h)
    exact ⟨(cells8 (hb.trans HB9.out)).2.2.2.2.2.2.1, (hh _).trans e0, (hh _).trans e1, (hh _).trans e2, (hh _).trans e3⟩ : (fun v => v.cell? ⟨sb, 6, none⟩ = some (.slice none 0 0) ∧ v.cell? ⟨bA, oA + q * 4, none⟩ = some (.int .i64 y.k) ∧ v.cell? ⟨bA, oA + q * 4 + 1, none⟩ = some (.int .i64 y.t) ∧ v.cell? ⟨bA, oA + q * 4 + 2, none⟩ = some (.int .i64 y.n) ∧ v.cell? ⟨bA, oA + q * 4 + 3, none⟩ = some (.int .i64 y.m)) v))
  have HZ6 := As.mk (show v9.drew.heap[sb]? = v9.heap[sb]? from rfl)
  have HZ8 := As.mk (show ∀ o, (v9.alloc o).drew.heap[sb]? = v9.heap[sb]? from fun o => Below.heap_alloc v9 o sb (lt_of_block HB9.out))
  have HZ7 := As.mk (show ∀ o, (v9.drew.alloc o).heap[sb]? = v9.heap[sb]? from fun o => Below.heap_alloc v9.drew o sb (lt_of_block HB9.out))
  have hcf9 : ∀ i, v9.frozen? ⟨sb, i, none⟩ = false := (fun i => by simp [World.frozen?, HB9.out])
  refine wp_region_U (P := Tryz.prog) (fun v => v.cell? ⟨sb, 6, none⟩ = some (.slice none 0 0) ∧ v.cell? ⟨bA, oA + q * 4, none⟩ = some (.int .i64 y.k) ∧ v.cell? ⟨bA, oA + q * 4 + 1, none⟩ = some (.int .i64 y.t) ∧ v.cell? ⟨bA, oA + q * 4 + 2, none⟩ = some (.int .i64 y.n) ∧ v.cell? ⟨bA, oA + q * 4 + 3, none⟩ = some (.int .i64 y.m)) 8 (by kernel_rfl) ?_ (fun hHeld => ?_)
  · with_reducible (first | exact HK6.out _ (HZ6.out) HU9.out.drew | exact HK6.out _ (HZ7.out _) (HU9.out.drew.alloc _) | exact HK6.out _ (HZ8.out _) (HU9.out.alloc _).drew | exact HK6.out _ HZ5.out HU5.out)
  refine zU 0 ?_
  refine zU 1 ?_
  (try simp only [Act.put, List.setIfInBounds_toArray, List.set_cons_zero, List.set_cons_succ])
  refine zU 2 ?_
  refine zU 3 ?_
  refine zU 4 ?_
  refine zU 5 ?_
  (try simp only [Act.put, List.setIfInBounds_toArray, List.set_cons_zero, List.set_cons_succ])
  refine oU 6 (fun K hK => ?_)
  go_simp
  refine hK.out _ _ (fun _ => by with_reducible (first | exact HK6.out _ (HZ6.out) HU9.out.drew | exact HK6.out _ (HZ7.out _) (HU9.out.drew.alloc _) | exact HK6.out _ (HZ8.out _) (HU9.out.alloc _).drew | exact HK6.out _ HZ5.out HU5.out)) (fun hHeld => ?_)
  replace hHeld := hHeld (by decide)
  clear hK K
  (try simp only [Act.put, List.setIfInBounds_toArray, List.set_cons_zero, List.set_cons_succ])
  refine oU 7 (fun K hK => ?_)
  refine Rp.step_append_one tokR (W := v9.drew) (Rp.own_drew HO9.out) y y.cs rfl (Fp := fun _ => False) (G := fun q => sb < q) (fun _ h => h.elim) (fun _ h => h) (fun q hq => Nat.lt_of_lt_of_le (lt_of_block HB9.out) hq) (by rfl) _ _ 22 _ 32 (by rfl) Tryz.underlying22 tok_info rfl (by decide) (by decide) (by rfl) rfl (by rfl) (by decide) ?_; intro v1 w5 ho1 hu1; have HU5 := As.mk (Upd.trans HU9.out.drew hu1 (fun k hk h => by have h7 := (Rp.own_block_lt HO9.out k h).1; have h8 := HL9.out; omega)); have HZ5 := As.mk (show w5.heap[sb]? = v9.heap[sb]? from hu1.block sb (lt_of_block HB9.out) (fun h => Nat.lt_irrefl _ (Rp.own_block_lt HO9.out _ h).1)); have HQ5 := As.mk ((hu1.block (w.heap.size + 1) (lt_of_block HQ9.out) (fun h => by have h7 := (Rp.own_block_lt HO9.out _ h).1; have h8 := HL9.out; omega)).trans HQ9.out); have HW5 := As.mk ((hu1.block w.heap.size (lt_of_block HW9.out) (fun h => by have h7 := (Rp.own_block_lt HO9.out _ h).1; have h8 := HL9.out; omega)).trans HW9.out); obtain ⟨Ar, cr, rfl, hcq, hrq⟩ := Rp.own_slice ho1; have HR5 := As.mk hrq; have HC5 := As.mk hcq; have HB5 := As.mk (HZ5.out.trans HB9.out); have hbl5 : sb < w5.heap.size := lt_of_block HB5.out; have hcf5 : ∀ i, w5.frozen? ⟨sb, i, none⟩ = false := (fun i => by simp [World.frozen?, HB5.out]); obtain ⟨k0, k1, k2, k3, k4, k5, k6, k7⟩ := cells8 HB5.out; obtain ⟨d0, d1⟩ := cells2 HQ5.out; clear ho1 hu1 hcq hrq
  refine hK.out _ _ (fun _ => by with_reducible (first | exact HK6.out _ (HZ6.out) HU9.out.drew | exact HK6.out _ (HZ7.out _) (HU9.out.drew.alloc _) | exact HK6.out _ (HZ8.out _) (HU9.out.alloc _).drew | exact HK6.out _ HZ5.out HU5.out)) (fun hHeld => ?_)
  replace hHeld := hHeld (by decide)
  clear hK K
  (try simp only [Act.put, List.setIfInBounds_toArray, List.set_cons_zero, List.set_cons_succ])
  refine oU 8 (fun K hK => ?_)
  go_simp
  refine hK.out _ _ (fun h => absurd h (by decide)) (fun hHeld => ?_)
  clear hK K
  (try simp only [Act.put, List.setIfInBounds_toArray, List.set_cons_zero, List.set_cons_succ])
  refine oU 9 (fun K hK => ?_)
  go_simp
  refine hK.out _ _ (fun h => absurd h (by decide)) (fun hHeld => ?_)
  clear hK K
  (try simp only [Act.put, List.setIfInBounds_toArray, List.set_cons_zero, List.set_cons_succ])
  refine wpAnyU_done (by kernel_rfl) ?_ _
  go_wp2_with (go_at_call 48; refine (HR.out _ Ar cr (HU5.out.setCell (p := ⟨sb, 6, none⟩) (fun h => absurd h (by show ¬ sb < w.heap.size; have h8 := HL.out; omega)) _) (Rp.row_fp (Rp.row_upd HR5.out ((Upd.refl (fun k => k = sb) w5).setCell (p := ⟨sb, 6, none⟩) (fun _ => rfl) _) (fun k _ h e => by omega)) (fun _ _ => trivial)) HC5.out (fun h => absurd h (by simp))).mono ?_; rintro r w2 ⟨rfl, hu⟩; have HU2 := As.mk ((HU5.out.setCell (p := ⟨sb, 6, none⟩) (fun h => absurd h (by show ¬ sb < w.heap.size; have h8 := HL.out; omega)) _).trans hu (fun _ _ h => h)); have HB2 := As.mk ((hu.block w.heap.size (by have h7 := lt_of_block HW5.out; simpa [World.setCell] using h7) (fun h => h)).trans ((Upd.block (S := fun k => k = sb) ((Upd.refl (fun k => k = sb) w5).setCell (p := ⟨sb, 6, none⟩) (fun _ => rfl) _) w.heap.size (lt_of_block HW5.out) (by have h8 := HL.out; omega)).trans HW5.out)); have HR2 := As.mk (Rp.row_pure (Rp.row_upd HR5.out ((Upd.refl (fun k => k = sb) w5).setCell (p := ⟨sb, 6, none⟩) (fun _ => rfl) _) (fun k _ h e => by omega)) hu); clear hu; apply As.out)
  refine ⟨?_⟩
  have hbl : w.heap.size < w2.heap.size := (Array.getElem?_eq_some_iff.1 HB2.out).1
  have hcf : ∀ i, w2.frozen? ⟨w.heap.size, i, none⟩ = false := fun i => by simp [World.frozen?, HB2.out]
  obtain ⟨k0, k1, k2, k3, k4, k5, k6, k7⟩ := cells8 HB2.out
  go_wp2
  exact bodyPost_ret (step_end (rb := w.heap.size) rfl _ rfl (set8 (rb := w.heap.size) HB2.out _ _ _ _ _ _ _ _)) rfl ⟨_, _, ⟨rfl, set8_pure HU2.out (Nat.le_refl _) _ _ _ _ _ _ _ _⟩, tolds (e := e) HT.out.1 HT.out.2 (Rp.row_fp (G := fun k => w.heap.size ≤ k) (Rp.row_upd HR2.out (set8_upd (Upd.refl _ _) _ _ _ _ _ _ _ _) (fun k _ h e => by have h8 := HL.out; omega)) (fun _ h => by (try have h8 := HL.out); omega)) HC5.out (fun h => absurd h (by simp)), fun h => ⟨if_neg h, if_neg h⟩⟩
set_option maxRecDepth 100000 in
set_option maxHeartbeats 4000000 in
theorem Lift_nf {w : World} {F : Nat → Prop} {cb : Nat} {A : Option Addr} {c b q : Nat} {l : List Tok} {p pe al ab pb pq e : Int} {y : Tok} {s' : StepD} (hrow : tokR.row w F A l) (hlc : l.length ≤ c) (hb : l.length ≤ 1048576 * 4)
    (hp : ∀ W, Pure w W → Calls Tryz.prog 38 #[deskV cb A l.length c, .int .i64 p, .int .i64 p] W (fun r w' => r = .returned (.int .i64 pe) ∧ Pure W w'))
    (ha1 : ∀ W, Pure w W → Calls Tryz.prog 20 #[.slice A l.length c, .int .i64 p] W (fun r w' => r = .returned (.int .i64 al) ∧ Pure W w'))
    (ha2 : ∀ W, Pure w W → Calls Tryz.prog 20 #[.slice A l.length c, .int .i64 al] W (fun r w' => r = .returned (.int .i64 ab) ∧ Pure W w'))
    (hp1 : ∀ W, Pure w W → Calls Tryz.prog 23 #[.slice A l.length c, .int .i64 (b : Nat)] W (fun r w' => r = .returned (.int .i64 pb) ∧ Pure W w'))
    (hp2 : ∀ W, Pure w W → Calls Tryz.prog 23 #[.slice A l.length c, .int .i64 (q : Nat)] W (fun r w' => r = .returned (.int .i64 pq) ∧ Pure W w'))
    (p0 : pe = 0) (hal : al = (b : Int)) (hab : ab = (q : Int)) (hbl : b < l.length) (hy : l[q]? = some y) (hpb : -1 ≤ pb ∧ pb < l.length) (hpq : -1 ≤ pq ∧ pq < l.length)
    (hf : (b : Int) ≠ (q : Int) + 1) (hl : pb + 1 = pq)
    (hr : ∀ V A1 c1, Pure w V → tokR.row V (fun _ => True) A1 [shutT] → ([shutT] : List Tok).length ≤ c1 → (([shutT] : List Tok) = [] → A1 = none ∧ c1 = 0) → Calls Tryz.prog 48 #[deskV cb A l.length c, (arnd b (pq + 1) b (pb + 1) 1 [shutT]).val A1 c1] V (Told s' (toldB A1 e) (toldC c1 e) e V))
    (h2 : e = 0 → s'.sl = [shutT]) (h3 : e ≠ 0 → s'.sl = []) :
    Calls Tryz.prog 25 #[.pointer (some ⟨cb, 0, none⟩), .slice A l.length c, .int .i64 p] w (fun r w' => ∃ B' c', Told s' B' c' e w r w' ∧ (tokR.row w' (fun k => w.heap.size ≤ k) B' s'.sl ∧ s'.sl.length ≤ c' ∧ (s'.sl = [] → B' = none ∧ c' = 0)) ∧ (e ≠ 0 → B' = none ∧ c' = 0)) := by
  have HP := As.mk hp
  have HA1 := As.mk ha1
  have HA2 := As.mk ha2
  have HP1 := As.mk hp1
  have HP2 := As.mk hp2
  have HR := As.mk hr
  have HT := As.mk (And.intro h2 h3)
  have hw1 : IntKind.i64.wrap ((q : Int) + 1) = (q : Int) + 1 := IntWalk.i64_in _ (by have := (List.getElem?_eq_some_iff.1 hy).1; omega)
  have hw2 : IntKind.i64.wrap (pb + 1) = pb + 1 := IntWalk.i64_in _ (by omega)
  have hw3 : IntKind.i64.wrap (pq + 1) = pq + 1 := IntWalk.i64_in _ (by omega)
  have gb : ¬ ((b : Int) < 0) := by omega
  have gq : ¬ ((q : Int) < 0) := by omega
  obtain ⟨bA, oA, rfl, hF, hbA, c0, c1, c2, c3⟩ := tok_at hrow hy
  have HBA := As.mk hbA
  have HCS := As.mk (And.intro c0 (And.intro c1 (And.intro c2 c3)))
  have ql : q < l.length := (List.getElem?_eq_some_iff.1 hy).1
  subst p0 hal hab
  have jf : ((b : Int) == (q : Int) + 1) = false := by simpa using hf
  have jl : (pb + 1 == pq) = true := by simpa using hl
  clear hf hl
  clear hp ha1 ha2 hp1 hp2 hr h2 h3 hrow hy hpb hpq hF hbA c0 c1 c2 c3
  unfold Told StepD.val arnd at *
  go_enter Tryz.func25, Tryz.ntmps25
  go_wp2_with (first | (go_at_call 23; with_reducible refine (HP2.out wc HUc.out).mono ?_; rintro r wd ⟨rfl, hu⟩; have HBd := As.mk ((hu.block w.heap.size (lt_of_block HBc.out) (fun h => h)).trans HBc.out); have HQd := As.mk ((hu.block (w.heap.size + 1) (lt_of_block HQc.out) (fun h => h)).trans HQc.out); have qd := cells2 HQd.out; have HUd := As.mk (HUc.out.trans hu (fun _ _ h => h)); clear hu; have hbd : w.heap.size + 1 < wd.heap.size := lt_of_block HQd.out; obtain ⟨qd0, qd1⟩ := qd) | (go_at_call 23; with_reducible refine (HP1.out wb HUb.out).mono ?_; rintro r wc ⟨rfl, hu⟩; have HBc := As.mk ((hu.block w.heap.size (lt_of_block HBb.out) (fun h => h)).trans HBb.out); have HQc := As.mk ((hu.block (w.heap.size + 1) (lt_of_block HQb.out) (fun h => h)).trans HQb.out); have qc := cells2 HQc.out; have HUc := As.mk (HUb.out.trans hu (fun _ _ h => h)); clear hu) | (go_at_call 20; with_reducible refine (HA2.out wa HUa.out).mono ?_; rintro r wb ⟨rfl, hu⟩; have HBb := As.mk ((hu.block w.heap.size (lt_of_block HBa.out) (fun h => h)).trans HBa.out); have HQb := As.mk ((hu.block (w.heap.size + 1) (lt_of_block HQa.out) (fun h => h)).trans HQa.out); have qb := cells2 HQb.out; have HUb := As.mk (HUa.out.trans hu (fun _ _ h => h)); clear hu) | (go_at_call 20; with_reducible refine (HA1.out w1 HU1.out).mono ?_; rintro r wa ⟨rfl, hu⟩; have HBa := As.mk ((hu.block w.heap.size (lt_of_block HB1.out) (fun h => h)).trans HB1.out); have HQa := As.mk ((hu.block (w.heap.size + 1) (lt_of_block HQ1.out) (fun h => h)).trans HQ1.out); have qa := cells2 HQa.out; have HUa := As.mk (HU1.out.trans hu (fun _ _ h => h)); clear hu) | (go_at_call 38; refine (HP.out _ ((Upd.alloc1 (fun _ => False) _ _).alloc _)).mono ?_; rintro r w1 ⟨rfl, hu⟩; obtain ⟨hb1, hb2, hu2⟩ := two_up hu; obtain ⟨q0, q1⟩ := cells2 hb2; have HB1 := As.mk hb1; have HQ1 := As.mk hb2; have HU1 := As.mk hu2; clear hu hb1 hb2 hu2))
  have HL := As.mk (show w.heap.size + 1 < wd.heap.size from lt_of_block HQd.out)
  have HS0 := As.mk (heap_alloc_new wd (.cells #[.int .i64 1, .int .i64 (b : Nat), .int .i64 (pb + 1), .int .i64 (b : Nat), .int .i64 (pb + 1), .int .i64 0, .slice none 0 0, .int .i64 0] 27))
  have HU0 := As.mk (HUd.out.alloc (.cells #[.int .i64 1, .int .i64 (b : Nat), .int .i64 (pb + 1), .int .i64 (b : Nat), .int .i64 (pb + 1), .int .i64 0, .slice none 0 0, .int .i64 0] 27))
  have HK6 := As.mk (fun v (hu : Pure (wd.alloc (.cells #[.int .i64 1, .int .i64 (b : Nat), .int .i64 (pb + 1), .int .i64 (b : Nat), .int .i64 (pb + 1), .int .i64 0, .slice none 0 0, .int .i64 0] 27)) v) => (cells8 ((hu.block wd.heap.size (by simp) (fun h => h)).trans HS0.out)).2.2.2.2.2.2.1)
  refine wp_region_U (P := Tryz.prog) (fun v => v.cell? ⟨wd.heap.size, 6, none⟩ = some (.slice none 0 0)) 5 (by kernel_rfl) ?_ (fun hHeld => ?_)
  · with_reducible (first | exact HK6.out _ (Upd.refl _ _).drew | exact HK6.out _ HP3.out | exact HK6.out _ (HP3.out.alloc _) | exact HK6.out _ HP4.out)
  refine zU 0 ?_
  refine zU 1 ?_
  refine oU 2 (fun K hK => ?_)
  go_simp
  (go_at_call 51; refine (shut_calls _).mono ?_; rintro r w3 ⟨rfl, hu3⟩; have HP3 := As.mk ((Upd.refl _ _).drew.trans hu3 (fun _ _ h => h)); have HL3 := As.mk (lt_of_block ((HP3.out.block wd.heap.size (by simp) (fun h => h)).trans HS0.out)); clear hu3)
  refine hK.out _ _ (fun _ => by with_reducible (first | exact HK6.out _ (Upd.refl _ _).drew | exact HK6.out _ HP3.out | exact HK6.out _ (HP3.out.alloc _) | exact HK6.out _ HP4.out)) (fun hHeld => ?_)
  replace hHeld := hHeld (by decide)
  clear hK K
  (try simp only [Act.put, List.setIfInBounds_toArray, List.set_cons_zero, List.set_cons_succ])
  refine oU 3 (fun K hK => ?_)
  go_simp
  refine hK.out _ _ (fun _ => by with_reducible (first | exact HK6.out _ (Upd.refl _ _).drew | exact HK6.out _ HP3.out | exact HK6.out _ (HP3.out.alloc _) | exact HK6.out _ HP4.out)) (fun hHeld => ?_)
  replace hHeld := hHeld (by decide)
  clear hK K
  (try simp only [Act.put, List.setIfInBounds_toArray, List.set_cons_zero, List.set_cons_succ])
  refine oU 4 (fun K hK => ?_)
  refine Rp.step_append_one tokR (W := w3) (Rp.own_nil tokR 40 w3 (fun q => wd.heap.size < q)) shutT shutT.cs rfl (Fp := fun _ => False) (G := fun q => wd.heap.size < q) (fun _ h => h.elim) (fun _ h => h) (fun q hq => Nat.lt_of_lt_of_le HL3.out hq) (by rfl) _ _ 22 _ 32 (by rfl) Tryz.underlying22 tok_info rfl (by decide) (by decide) (by rfl) rfl (by rfl) (by decide) ?_; intro v1 w4 ho1 hu1; have HP4 := As.mk (Upd.trans HP3.out hu1 (fun k _ h => by simp [Value.ownBlock] at h)); obtain ⟨Aq, cq, rfl, hcq, hrq⟩ := Rp.own_slice ho1; have HO4 := As.mk ho1; have HR4 := As.mk hrq; have HC4 := As.mk hcq; have HU4 := As.mk (HU0.out.trans HP4.out (fun _ _ h => h)); have HB4 := As.mk ((HP4.out.block wd.heap.size (by simp) (fun h => h)).trans HS0.out); have HQ4 := As.mk ((HP4.out.block (w.heap.size + 1) (by simp; have := lt_of_block HQd.out; omega) (fun h => h)).trans ((Below.heap_alloc wd _ _ (lt_of_block HQd.out)).trans HQd.out)); have HW4 := As.mk ((HP4.out.block w.heap.size (by simp; have := lt_of_block HBd.out; omega) (fun h => h)).trans ((Below.heap_alloc wd _ _ (lt_of_block HBd.out)).trans HBd.out)); have hbl4 : wd.heap.size < w4.heap.size := lt_of_block HB4.out; have hcf4 : ∀ i, w4.frozen? ⟨wd.heap.size, i, none⟩ = false := (fun i => by simp [World.frozen?, HB4.out]); obtain ⟨k0, k1, k2, k3, k4, k5, k6, k7⟩ := cells8 HB4.out; obtain ⟨d0, d1⟩ := cells2 HQ4.out; clear ho1 hu1 hcq hrq
  refine hK.out _ _ (fun _ => by with_reducible (first | exact HK6.out _ (Upd.refl _ _).drew | exact HK6.out _ HP3.out | exact HK6.out _ (HP3.out.alloc _) | exact HK6.out _ HP4.out)) (fun hHeld => ?_)
  replace hHeld := hHeld (by decide)
  clear hK K
  (try simp only [Act.put, List.setIfInBounds_toArray, List.set_cons_zero, List.set_cons_succ])
  refine oU 5 (fun K hK => ?_)
  go_simp
  refine hK.out _ _ (fun h => absurd h (by decide)) (fun hHeld => ?_)
  clear hK K
  (try simp only [Act.put, List.setIfInBounds_toArray, List.set_cons_zero, List.set_cons_succ])
  refine oU 6 (fun K hK => ?_)
  go_simp
  refine hK.out _ _ (fun h => absurd h (by decide)) (fun hHeld => ?_)
  clear hK K
  (try simp only [Act.put, List.setIfInBounds_toArray, List.set_cons_zero, List.set_cons_succ])
  refine oU 7 (fun K hK => ?_)
  go_simp
  refine hK.out _ _ (fun h => absurd h (by decide)) (fun hHeld => ?_)
  clear hK K
  (try simp only [Act.put, List.setIfInBounds_toArray, List.set_cons_zero, List.set_cons_succ])
  refine oU 8 (fun K hK => ?_)
  go_simp
  refine hK.out _ _ (fun h => absurd h (by decide)) (fun hHeld => ?_)
  clear hK K
  (try simp only [Act.put, List.setIfInBounds_toArray, List.set_cons_zero, List.set_cons_succ])
  refine wpAnyU_done (by kernel_rfl) ?_ _
  go_wp2_with (go_at_call 48; refine (HR.out _ Aq cq (((HU4.out.setCell (p := ⟨wd.heap.size, 6, none⟩) (fun h => absurd h (by show ¬ wd.heap.size < w.heap.size; have h8 := HL.out; omega)) _).setCell (p := ⟨wd.heap.size, 5, none⟩) (fun h => absurd h (by show ¬ wd.heap.size < w.heap.size; have h8 := HL.out; omega)) _).setCell (p := ⟨wd.heap.size, 2, none⟩) (fun h => absurd h (by show ¬ wd.heap.size < w.heap.size; have h8 := HL.out; omega)) _) (Rp.row_fp (Rp.row_upd HR4.out ((((Upd.refl (fun k => k = wd.heap.size) w4).setCell (p := ⟨wd.heap.size, 6, none⟩) (fun _ => rfl) _).setCell (p := ⟨wd.heap.size, 5, none⟩) (fun _ => rfl) _).setCell (p := ⟨wd.heap.size, 2, none⟩) (fun _ => rfl) _) (fun k _ h e => by omega)) (fun _ _ => trivial)) HC4.out (fun h => absurd h (by simp))).mono ?_; rintro r w2 ⟨rfl, hu⟩; have HU2 := As.mk ((((HU4.out.setCell (p := ⟨wd.heap.size, 6, none⟩) (fun h => absurd h (by show ¬ wd.heap.size < w.heap.size; have h8 := HL.out; omega)) _).setCell (p := ⟨wd.heap.size, 5, none⟩) (fun h => absurd h (by show ¬ wd.heap.size < w.heap.size; have h8 := HL.out; omega)) _).setCell (p := ⟨wd.heap.size, 2, none⟩) (fun h => absurd h (by show ¬ wd.heap.size < w.heap.size; have h8 := HL.out; omega)) _).trans hu (fun _ _ h => h)); have HB2 := As.mk ((hu.block w.heap.size (by have h7 := lt_of_block HW4.out; simpa [World.setCell] using h7) (fun h => h)).trans ((Upd.block (S := fun k => k = wd.heap.size) ((((Upd.refl (fun k => k = wd.heap.size) w4).setCell (p := ⟨wd.heap.size, 6, none⟩) (fun _ => rfl) _).setCell (p := ⟨wd.heap.size, 5, none⟩) (fun _ => rfl) _).setCell (p := ⟨wd.heap.size, 2, none⟩) (fun _ => rfl) _) w.heap.size (lt_of_block HW4.out) (by have h8 := HL.out; omega)).trans HW4.out)); have HR2 := As.mk (Rp.row_pure (Rp.row_upd HR4.out ((((Upd.refl (fun k => k = wd.heap.size) w4).setCell (p := ⟨wd.heap.size, 6, none⟩) (fun _ => rfl) _).setCell (p := ⟨wd.heap.size, 5, none⟩) (fun _ => rfl) _).setCell (p := ⟨wd.heap.size, 2, none⟩) (fun _ => rfl) _) (fun k _ h e => by omega)) hu); clear hu; apply As.out)
  refine ⟨?_⟩
  have hbl : w.heap.size < w2.heap.size := (Array.getElem?_eq_some_iff.1 HB2.out).1
  have hcf : ∀ i, w2.frozen? ⟨w.heap.size, i, none⟩ = false := fun i => by simp [World.frozen?, HB2.out]
  obtain ⟨k0, k1, k2, k3, k4, k5, k6, k7⟩ := cells8 HB2.out
  go_wp2
  exact bodyPost_ret (step_end (rb := w.heap.size) rfl _ rfl (set8 (rb := w.heap.size) HB2.out _ _ _ _ _ _ _ _)) rfl ⟨_, _, ⟨rfl, set8_pure HU2.out (Nat.le_refl _) _ _ _ _ _ _ _ _⟩, tolds (e := e) HT.out.1 HT.out.2 (Rp.row_fp (G := fun k => w.heap.size ≤ k) (Rp.row_upd HR2.out (set8_upd (Upd.refl _ _) _ _ _ _ _ _ _ _) (fun k _ h e => by have h8 := HL.out; omega)) (fun _ h => by (try have h8 := HL.out); omega)) HC4.out (fun h => absurd h (by simp)), fun h => ⟨if_neg h, if_neg h⟩⟩
set_option maxRecDepth 100000 in
set_option maxHeartbeats 4000000 in
theorem Lift_nn {w : World} {F : Nat → Prop} {cb : Nat} {A : Option Addr} {c b q : Nat} {l : List Tok} {p pe al ab pb pq e : Int} {y : Tok} {s' : StepD} (hrow : tokR.row w F A l) (hlc : l.length ≤ c) (hb : l.length ≤ 1048576 * 4)
    (hp : ∀ W, Pure w W → Calls Tryz.prog 38 #[deskV cb A l.length c, .int .i64 p, .int .i64 p] W (fun r w' => r = .returned (.int .i64 pe) ∧ Pure W w'))
    (ha1 : ∀ W, Pure w W → Calls Tryz.prog 20 #[.slice A l.length c, .int .i64 p] W (fun r w' => r = .returned (.int .i64 al) ∧ Pure W w'))
    (ha2 : ∀ W, Pure w W → Calls Tryz.prog 20 #[.slice A l.length c, .int .i64 al] W (fun r w' => r = .returned (.int .i64 ab) ∧ Pure W w'))
    (hp1 : ∀ W, Pure w W → Calls Tryz.prog 23 #[.slice A l.length c, .int .i64 (b : Nat)] W (fun r w' => r = .returned (.int .i64 pb) ∧ Pure W w'))
    (hp2 : ∀ W, Pure w W → Calls Tryz.prog 23 #[.slice A l.length c, .int .i64 (q : Nat)] W (fun r w' => r = .returned (.int .i64 pq) ∧ Pure W w'))
    (p0 : pe = 0) (hal : al = (b : Int)) (hab : ab = (q : Int)) (hbl : b < l.length) (hy : l[q]? = some y) (hpb : -1 ≤ pb ∧ pb < l.length) (hpq : -1 ≤ pq ∧ pq < l.length)
    (hf : (b : Int) ≠ (q : Int) + 1) (hl : pb + 1 ≠ pq)
    (hr : ∀ V A1 c1, Pure w V → tokR.row V (fun _ => True) A1 [shutT, y] → ([shutT, y] : List Tok).length ≤ c1 → (([shutT, y] : List Tok) = [] → A1 = none ∧ c1 = 0) → Calls Tryz.prog 48 #[deskV cb A l.length c, (arnd b (pb + 1) b (pb + 1) 1 [shutT, y]).val A1 c1] V (Told s' (toldB A1 e) (toldC c1 e) e V))
    (h2 : e = 0 → s'.sl = [shutT, y]) (h3 : e ≠ 0 → s'.sl = []) :
    Calls Tryz.prog 25 #[.pointer (some ⟨cb, 0, none⟩), .slice A l.length c, .int .i64 p] w (fun r w' => ∃ B' c', Told s' B' c' e w r w' ∧ (tokR.row w' (fun k => w.heap.size ≤ k) B' s'.sl ∧ s'.sl.length ≤ c' ∧ (s'.sl = [] → B' = none ∧ c' = 0)) ∧ (e ≠ 0 → B' = none ∧ c' = 0)) := by
  have HP := As.mk hp
  have HA1 := As.mk ha1
  have HA2 := As.mk ha2
  have HP1 := As.mk hp1
  have HP2 := As.mk hp2
  have HR := As.mk hr
  have HT := As.mk (And.intro h2 h3)
  have hw1 : IntKind.i64.wrap ((q : Int) + 1) = (q : Int) + 1 := IntWalk.i64_in _ (by have := (List.getElem?_eq_some_iff.1 hy).1; omega)
  have hw2 : IntKind.i64.wrap (pb + 1) = pb + 1 := IntWalk.i64_in _ (by omega)
  have hw3 : IntKind.i64.wrap (pq + 1) = pq + 1 := IntWalk.i64_in _ (by omega)
  have gb : ¬ ((b : Int) < 0) := by omega
  have gq : ¬ ((q : Int) < 0) := by omega
  obtain ⟨bA, oA, rfl, hF, hbA, c0, c1, c2, c3⟩ := tok_at hrow hy
  have HBA := As.mk hbA
  have HCS := As.mk (And.intro c0 (And.intro c1 (And.intro c2 c3)))
  have ql : q < l.length := (List.getElem?_eq_some_iff.1 hy).1
  subst p0 hal hab
  have jf : ((b : Int) == (q : Int) + 1) = false := by simpa using hf
  have jl : (pb + 1 == pq) = false := by simpa using hl
  clear hf hl
  clear hp ha1 ha2 hp1 hp2 hr h2 h3 hrow hy hpb hpq hF hbA c0 c1 c2 c3
  unfold Told StepD.val arnd at *
  go_enter Tryz.func25, Tryz.ntmps25
  go_wp2_with (first | (go_at_call 23; with_reducible refine (HP2.out wc HUc.out).mono ?_; rintro r wd ⟨rfl, hu⟩; have HBd := As.mk ((hu.block w.heap.size (lt_of_block HBc.out) (fun h => h)).trans HBc.out); have HQd := As.mk ((hu.block (w.heap.size + 1) (lt_of_block HQc.out) (fun h => h)).trans HQc.out); have qd := cells2 HQd.out; have HUd := As.mk (HUc.out.trans hu (fun _ _ h => h)); clear hu; have hbd : w.heap.size + 1 < wd.heap.size := lt_of_block HQd.out; obtain ⟨qd0, qd1⟩ := qd) | (go_at_call 23; with_reducible refine (HP1.out wb HUb.out).mono ?_; rintro r wc ⟨rfl, hu⟩; have HBc := As.mk ((hu.block w.heap.size (lt_of_block HBb.out) (fun h => h)).trans HBb.out); have HQc := As.mk ((hu.block (w.heap.size + 1) (lt_of_block HQb.out) (fun h => h)).trans HQb.out); have qc := cells2 HQc.out; have HUc := As.mk (HUb.out.trans hu (fun _ _ h => h)); clear hu) | (go_at_call 20; with_reducible refine (HA2.out wa HUa.out).mono ?_; rintro r wb ⟨rfl, hu⟩; have HBb := As.mk ((hu.block w.heap.size (lt_of_block HBa.out) (fun h => h)).trans HBa.out); have HQb := As.mk ((hu.block (w.heap.size + 1) (lt_of_block HQa.out) (fun h => h)).trans HQa.out); have qb := cells2 HQb.out; have HUb := As.mk (HUa.out.trans hu (fun _ _ h => h)); clear hu) | (go_at_call 20; with_reducible refine (HA1.out w1 HU1.out).mono ?_; rintro r wa ⟨rfl, hu⟩; have HBa := As.mk ((hu.block w.heap.size (lt_of_block HB1.out) (fun h => h)).trans HB1.out); have HQa := As.mk ((hu.block (w.heap.size + 1) (lt_of_block HQ1.out) (fun h => h)).trans HQ1.out); have qa := cells2 HQa.out; have HUa := As.mk (HU1.out.trans hu (fun _ _ h => h)); clear hu) | (go_at_call 38; refine (HP.out _ ((Upd.alloc1 (fun _ => False) _ _).alloc _)).mono ?_; rintro r w1 ⟨rfl, hu⟩; obtain ⟨hb1, hb2, hu2⟩ := two_up hu; obtain ⟨q0, q1⟩ := cells2 hb2; have HB1 := As.mk hb1; have HQ1 := As.mk hb2; have HU1 := As.mk hu2; clear hu hb1 hb2 hu2))
  have HL := As.mk (show w.heap.size + 1 < wd.heap.size from lt_of_block HQd.out)
  have HS0 := As.mk (heap_alloc_new wd (.cells #[.int .i64 1, .int .i64 (b : Nat), .int .i64 (pb + 1), .int .i64 (b : Nat), .int .i64 (pb + 1), .int .i64 0, .slice none 0 0, .int .i64 0] 27))
  have HU0 := As.mk (HUd.out.alloc (.cells #[.int .i64 1, .int .i64 (b : Nat), .int .i64 (pb + 1), .int .i64 (b : Nat), .int .i64 (pb + 1), .int .i64 0, .slice none 0 0, .int .i64 0] 27))
  have HK6 := As.mk (fun v (hu : Pure (wd.alloc (.cells #[.int .i64 1, .int .i64 (b : Nat), .int .i64 (pb + 1), .int .i64 (b : Nat), .int .i64 (pb + 1), .int .i64 0, .slice none 0 0, .int .i64 0] 27)) v) => (cells8 ((hu.block wd.heap.size (by simp) (fun h => h)).trans HS0.out)).2.2.2.2.2.2.1)
  refine wp_region_U (P := Tryz.prog) (fun v => v.cell? ⟨wd.heap.size, 6, none⟩ = some (.slice none 0 0)) 5 (by kernel_rfl) ?_ (fun hHeld => ?_)
  · with_reducible (first | exact HK6.out _ (Upd.refl _ _).drew | exact HK6.out _ HP3.out | exact HK6.out _ (HP3.out.alloc _) | exact HK6.out _ HP4.out)
  refine zU 0 ?_
  refine zU 1 ?_
  refine oU 2 (fun K hK => ?_)
  go_simp
  (go_at_call 51; refine (shut_calls _).mono ?_; rintro r w3 ⟨rfl, hu3⟩; have HP3 := As.mk ((Upd.refl _ _).drew.trans hu3 (fun _ _ h => h)); have HL3 := As.mk (lt_of_block ((HP3.out.block wd.heap.size (by simp) (fun h => h)).trans HS0.out)); clear hu3)
  refine hK.out _ _ (fun _ => by with_reducible (first | exact HK6.out _ (Upd.refl _ _).drew | exact HK6.out _ HP3.out | exact HK6.out _ (HP3.out.alloc _) | exact HK6.out _ HP4.out)) (fun hHeld => ?_)
  replace hHeld := hHeld (by decide)
  clear hK K
  (try simp only [Act.put, List.setIfInBounds_toArray, List.set_cons_zero, List.set_cons_succ])
  refine oU 3 (fun K hK => ?_)
  go_simp
  refine hK.out _ _ (fun _ => by with_reducible (first | exact HK6.out _ (Upd.refl _ _).drew | exact HK6.out _ HP3.out | exact HK6.out _ (HP3.out.alloc _) | exact HK6.out _ HP4.out)) (fun hHeld => ?_)
  replace hHeld := hHeld (by decide)
  clear hK K
  (try simp only [Act.put, List.setIfInBounds_toArray, List.set_cons_zero, List.set_cons_succ])
  refine oU 4 (fun K hK => ?_)
  refine Rp.step_append_one tokR (W := w3) (Rp.own_nil tokR 40 w3 (fun q => wd.heap.size < q)) shutT shutT.cs rfl (Fp := fun _ => False) (G := fun q => wd.heap.size < q) (fun _ h => h.elim) (fun _ h => h) (fun q hq => Nat.lt_of_lt_of_le HL3.out hq) (by rfl) _ _ 22 _ 32 (by rfl) Tryz.underlying22 tok_info rfl (by decide) (by decide) (by rfl) rfl (by rfl) (by decide) ?_; intro v1 w4 ho1 hu1; have HP4 := As.mk (Upd.trans HP3.out hu1 (fun k _ h => by simp [Value.ownBlock] at h)); obtain ⟨Aq, cq, rfl, hcq, hrq⟩ := Rp.own_slice ho1; have HO4 := As.mk ho1; have HR4 := As.mk hrq; have HC4 := As.mk hcq; have HU4 := As.mk (HU0.out.trans HP4.out (fun _ _ h => h)); have HB4 := As.mk ((HP4.out.block wd.heap.size (by simp) (fun h => h)).trans HS0.out); have HQ4 := As.mk ((HP4.out.block (w.heap.size + 1) (by simp; have := lt_of_block HQd.out; omega) (fun h => h)).trans ((Below.heap_alloc wd _ _ (lt_of_block HQd.out)).trans HQd.out)); have HW4 := As.mk ((HP4.out.block w.heap.size (by simp; have := lt_of_block HBd.out; omega) (fun h => h)).trans ((Below.heap_alloc wd _ _ (lt_of_block HBd.out)).trans HBd.out)); have hbl4 : wd.heap.size < w4.heap.size := lt_of_block HB4.out; have hcf4 : ∀ i, w4.frozen? ⟨wd.heap.size, i, none⟩ = false := (fun i => by simp [World.frozen?, HB4.out]); obtain ⟨k0, k1, k2, k3, k4, k5, k6, k7⟩ := cells8 HB4.out; obtain ⟨d0, d1⟩ := cells2 HQ4.out; clear ho1 hu1 hcq hrq
  refine hK.out _ _ (fun _ => by with_reducible (first | exact HK6.out _ (Upd.refl _ _).drew | exact HK6.out _ HP3.out | exact HK6.out _ (HP3.out.alloc _) | exact HK6.out _ HP4.out)) (fun hHeld => ?_)
  replace hHeld := hHeld (by decide)
  clear hK K
  (try simp only [Act.put, List.setIfInBounds_toArray, List.set_cons_zero, List.set_cons_succ])
  refine oU 5 (fun K hK => ?_)
  go_simp
  refine hK.out _ _ (fun h => absurd h (by decide)) (fun hHeld => ?_)
  clear hK K
  (try simp only [Act.put, List.setIfInBounds_toArray, List.set_cons_zero, List.set_cons_succ])
  refine oU 6 (fun K hK => ?_)
  go_simp
  refine hK.out _ _ (fun h => absurd h (by decide)) (fun hHeld => ?_)
  clear hK K
  (try simp only [Act.put, List.setIfInBounds_toArray, List.set_cons_zero, List.set_cons_succ])
  refine oU 7 (fun K hK => ?_)
  go_simp
  refine hK.out _ _ (fun h => absurd h (by decide)) (fun hHeld => ?_)
  clear hK K
  (try simp only [Act.put, List.setIfInBounds_toArray, List.set_cons_zero, List.set_cons_succ])
  refine oU 8 (fun K hK => ?_)
  go_simp
  refine hK.out _ _ (fun h => absurd h (by decide)) (fun hHeld => ?_)
  clear hK K
  (try simp only [Act.put, List.setIfInBounds_toArray, List.set_cons_zero, List.set_cons_succ])
  refine wpAnyU_done (by kernel_rfl) ?_ _
  go_wp2
  have hup := ((Upd.refl (fun k => k = wd.heap.size) w4).setCell (p := ⟨wd.heap.size, 6, none⟩) (fun _ => rfl) (.slice Aq ([shutT] : List Tok).length cq)).setCell (p := ⟨wd.heap.size, 5, none⟩) (fun _ => rfl) (.int .i64 1)
  have HB9 := As.mk (show ((w4.setCell ⟨wd.heap.size, 6, none⟩ (.slice Aq ([shutT] : List Tok).length cq)).setCell ⟨wd.heap.size, 5, none⟩ (.int .i64 1)).heap[wd.heap.size]? = some (.cells #[.int .i64 1, .int .i64 (b : Nat), .int .i64 (pb + 1), .int .i64 (b : Nat), .int .i64 (pb + 1), .int .i64 1, .slice Aq ([shutT] : List Tok).length cq, .int .i64 0] 27 (0, 0)) by simp [World.setCell, Array.getElem?_modify, HB4.out])
  have HU9 := As.mk (show Pure w ((w4.setCell ⟨wd.heap.size, 6, none⟩ (.slice Aq ([shutT] : List Tok).length cq)).setCell ⟨wd.heap.size, 5, none⟩ (.int .i64 1)) from (HU4.out.setCell (p := ⟨wd.heap.size, 6, none⟩) (fun h => absurd h (by show ¬ wd.heap.size < w.heap.size; have h8 := HL.out; omega)) _).setCell (p := ⟨wd.heap.size, 5, none⟩) (fun h => absurd h (by show ¬ wd.heap.size < w.heap.size; have h8 := HL.out; omega)) _)
  have HQ9 := As.mk ((hup.block (w.heap.size + 1) (lt_of_block HQ4.out) (by have h8 := HL.out; omega)).trans HQ4.out)
  have HW9 := As.mk ((hup.block w.heap.size (lt_of_block HW4.out) (by have h8 := HL.out; omega)).trans HW4.out)
  have HO9 := As.mk (Rp.own_upd HO4.out hup (fun k _ h e => by omega))
  have HL9 := HL
  clear hup
  have hgl : (Value.slice Aq ([shutT] : List Tok).length cq) = .slice Aq 1 cq := rfl
  rw [hgl] at *
  generalize ((w4.setCell ⟨wd.heap.size, 6, none⟩ (.slice Aq 1 cq)).setCell ⟨wd.heap.size, 5, none⟩ (.int .i64 1)) = v9 at *
  generalize wd.heap.size = sb at *
  have HK6 := As.mk (fun v (hb : v.heap[sb]? = v9.heap[sb]?) (hu : Pure w v) => (by
    obtain ⟨e0, e1, e2, e3⟩ := HCS.out
    have hh : ∀ k, v.cell? ⟨bA, k, none⟩ = w.cell? ⟨bA, k, none⟩ := fun k => hu.cell HBA.out (fun h => h)
    exact ⟨(cells8 (hb.trans HB9.out)).2.2.2.2.2.2.1, (hh _).trans e0, (hh _).trans e1, (hh _).trans e2, (hh _).trans e3⟩ : (fun v => v.cell? ⟨sb, 6, none⟩ = some (.slice Aq 1 cq) ∧ v.cell? ⟨bA, oA + q * 4, none⟩ = some (.int .i64 y.k) ∧ v.cell? ⟨bA, oA + q * 4 + 1, none⟩ = some (.int .i64 y.t) ∧ v.cell? ⟨bA, oA + q * 4 + 2, none⟩ = some (.int .i64 y.n) ∧ v.cell? ⟨bA, oA + q * 4 + 3, none⟩ = some (.int .i64 y.m)) v))
  have HZ6 := As.mk (show v9.drew.heap[sb]? = v9.heap[sb]? from rfl)
  have HZ8 := As.mk (show ∀ o, (v9.alloc o).drew.heap[sb]? = v9.heap[sb]? from fun o => Below.heap_alloc v9 o sb (lt_of_block HB9.out))
  have HZ7 := As.mk (show ∀ o, (v9.drew.alloc o).heap[sb]? = v9.heap[sb]? from fun o => Below.heap_alloc v9.drew o sb (lt_of_block HB9.out))
  have hcf9 : ∀ i, v9.frozen? ⟨sb, i, none⟩ = false := (fun i => by simp [World.frozen?, HB9.out])
  refine wp_region_U (P := Tryz.prog) (fun v => v.cell? ⟨sb, 6, none⟩ = some (.slice Aq 1 cq) ∧ v.cell? ⟨bA, oA + q * 4, none⟩ = some (.int .i64 y.k) ∧ v.cell? ⟨bA, oA + q * 4 + 1, none⟩ = some (.int .i64 y.t) ∧ v.cell? ⟨bA, oA + q * 4 + 2, none⟩ = some (.int .i64 y.n) ∧ v.cell? ⟨bA, oA + q * 4 + 3, none⟩ = some (.int .i64 y.m)) 8 (by kernel_rfl) ?_ (fun hHeld => ?_)
  · with_reducible (first | exact HK6.out _ (HZ6.out) HU9.out.drew | exact HK6.out _ (HZ7.out _) (HU9.out.drew.alloc _) | exact HK6.out _ (HZ8.out _) (HU9.out.alloc _).drew | exact HK6.out _ HZ5.out HU5.out)
  refine zU 0 ?_
  refine zU 1 ?_
  (try simp only [Act.put, List.setIfInBounds_toArray, List.set_cons_zero, List.set_cons_succ])
  refine zU 2 ?_
  refine zU 3 ?_
  refine zU 4 ?_
  refine zU 5 ?_
  (try simp only [Act.put, List.setIfInBounds_toArray, List.set_cons_zero, List.set_cons_succ])
  refine oU 6 (fun K hK => ?_)
  go_simp
  refine hK.out _ _ (fun _ => by with_reducible (first | exact HK6.out _ (HZ6.out) HU9.out.drew | exact HK6.out _ (HZ7.out _) (HU9.out.drew.alloc _) | exact HK6.out _ (HZ8.out _) (HU9.out.alloc _).drew | exact HK6.out _ HZ5.out HU5.out)) (fun hHeld => ?_)
  replace hHeld := hHeld (by decide)
  clear hK K
  (try simp only [Act.put, List.setIfInBounds_toArray, List.set_cons_zero, List.set_cons_succ])
  refine oU 7 (fun K hK => ?_)
  refine Rp.step_append_one tokR (W := v9.drew) (Rp.own_drew HO9.out) y y.cs rfl (Fp := fun _ => False) (G := fun q => sb < q) (fun _ h => h.elim) (fun _ h => h) (fun q hq => Nat.lt_of_lt_of_le (lt_of_block HB9.out) hq) (by rfl) _ _ 22 _ 32 (by rfl) Tryz.underlying22 tok_info rfl (by decide) (by decide) (by rfl) rfl (by rfl) (by decide) ?_; intro v1 w5 ho1 hu1; have HU5 := As.mk (Upd.trans HU9.out.drew hu1 (fun k hk h => by have h7 := (Rp.own_block_lt HO9.out k h).1; have h8 := HL9.out; omega)); have HZ5 := As.mk (show w5.heap[sb]? = v9.heap[sb]? from hu1.block sb (lt_of_block HB9.out) (fun h => Nat.lt_irrefl _ (Rp.own_block_lt HO9.out _ h).1)); have HQ5 := As.mk ((hu1.block (w.heap.size + 1) (lt_of_block HQ9.out) (fun h => by have h7 := (Rp.own_block_lt HO9.out _ h).1; have h8 := HL9.out; omega)).trans HQ9.out); have HW5 := As.mk ((hu1.block w.heap.size (lt_of_block HW9.out) (fun h => by have h7 := (Rp.own_block_lt HO9.out _ h).1; have h8 := HL9.out; omega)).trans HW9.out); obtain ⟨Ar, cr, rfl, hcq, hrq⟩ := Rp.own_slice ho1; have HR5 := As.mk hrq; have HC5 := As.mk hcq; have HB5 := As.mk (HZ5.out.trans HB9.out); have hbl5 : sb < w5.heap.size := lt_of_block HB5.out; have hcf5 : ∀ i, w5.frozen? ⟨sb, i, none⟩ = false := (fun i => by simp [World.frozen?, HB5.out]); obtain ⟨k0, k1, k2, k3, k4, k5, k6, k7⟩ := cells8 HB5.out; obtain ⟨d0, d1⟩ := cells2 HQ5.out; clear ho1 hu1 hcq hrq
  refine hK.out _ _ (fun _ => by with_reducible (first | exact HK6.out _ (HZ6.out) HU9.out.drew | exact HK6.out _ (HZ7.out _) (HU9.out.drew.alloc _) | exact HK6.out _ (HZ8.out _) (HU9.out.alloc _).drew | exact HK6.out _ HZ5.out HU5.out)) (fun hHeld => ?_)
  replace hHeld := hHeld (by decide)
  clear hK K
  (try simp only [Act.put, List.setIfInBounds_toArray, List.set_cons_zero, List.set_cons_succ])
  refine oU 8 (fun K hK => ?_)
  go_simp
  refine hK.out _ _ (fun h => absurd h (by decide)) (fun hHeld => ?_)
  clear hK K
  (try simp only [Act.put, List.setIfInBounds_toArray, List.set_cons_zero, List.set_cons_succ])
  refine oU 9 (fun K hK => ?_)
  go_simp
  refine hK.out _ _ (fun h => absurd h (by decide)) (fun hHeld => ?_)
  clear hK K
  (try simp only [Act.put, List.setIfInBounds_toArray, List.set_cons_zero, List.set_cons_succ])
  refine wpAnyU_done (by kernel_rfl) ?_ _
  go_wp2_with (go_at_call 48; refine (HR.out _ Ar cr (HU5.out.setCell (p := ⟨sb, 6, none⟩) (fun h => absurd h (by show ¬ sb < w.heap.size; have h8 := HL.out; omega)) _) (Rp.row_fp (Rp.row_upd HR5.out ((Upd.refl (fun k => k = sb) w5).setCell (p := ⟨sb, 6, none⟩) (fun _ => rfl) _) (fun k _ h e => by omega)) (fun _ _ => trivial)) HC5.out (fun h => absurd h (by simp))).mono ?_; rintro r w2 ⟨rfl, hu⟩; have HU2 := As.mk ((HU5.out.setCell (p := ⟨sb, 6, none⟩) (fun h => absurd h (by show ¬ sb < w.heap.size; have h8 := HL.out; omega)) _).trans hu (fun _ _ h => h)); have HB2 := As.mk ((hu.block w.heap.size (by have h7 := lt_of_block HW5.out; simpa [World.setCell] using h7) (fun h => h)).trans ((Upd.block (S := fun k => k = sb) ((Upd.refl (fun k => k = sb) w5).setCell (p := ⟨sb, 6, none⟩) (fun _ => rfl) _) w.heap.size (lt_of_block HW5.out) (by have h8 := HL.out; omega)).trans HW5.out)); have HR2 := As.mk (Rp.row_pure (Rp.row_upd HR5.out ((Upd.refl (fun k => k = sb) w5).setCell (p := ⟨sb, 6, none⟩) (fun _ => rfl) _) (fun k _ h e => by omega)) hu); clear hu; apply As.out)
  refine ⟨?_⟩
  have hbl : w.heap.size < w2.heap.size := (Array.getElem?_eq_some_iff.1 HB2.out).1
  have hcf : ∀ i, w2.frozen? ⟨w.heap.size, i, none⟩ = false := fun i => by simp [World.frozen?, HB2.out]
  obtain ⟨k0, k1, k2, k3, k4, k5, k6, k7⟩ := cells8 HB2.out
  go_wp2
  exact bodyPost_ret (step_end (rb := w.heap.size) rfl _ rfl (set8 (rb := w.heap.size) HB2.out _ _ _ _ _ _ _ _)) rfl ⟨_, _, ⟨rfl, set8_pure HU2.out (Nat.le_refl _) _ _ _ _ _ _ _ _⟩, tolds (e := e) HT.out.1 HT.out.2 (Rp.row_fp (G := fun k => w.heap.size ≤ k) (Rp.row_upd HR2.out (set8_upd (Upd.refl _ _) _ _ _ _ _ _ _ _) (fun k _ h e => by have h8 := HL.out; omega)) (fun _ h => by (try have h8 := HL.out); omega)) HC5.out (fun h => absurd h (by simp)), fun h => ⟨if_neg h, if_neg h⟩⟩
end Go.Proofs.YteeindicpbcjaaaGreatDoor
namespace Go.Proofs.YteeindicpbcjaaaGreatDoor
open Go.RowKit
set_option linter.unusedVariables false
set_option linter.unusedSimpArgs false

def liftSt (l : List Tok) (p : Int) : StepD := liftS l (aroundL l p).toNat (aroundL l (aroundL l p)).toNat ((l[(aroundL l (aroundL l p)).toNat]?).getD shutT)
def liftErr (l : List Tok) (p : Int) : Int := if placesErr l p p ≠ 0 then placesErr l p p else if aroundL l p < 0 ∨ aroundL l (aroundL l p) < 0 then 6 else remapErr l (liftSt l p)
theorem part_bound {l : List Tok} {i : Nat} (h : l.length ≤ 2048) : -1 ≤ partL l i ∧ partL l i < (l.length : Int) := by
  by_cases h0 : 0 ≤ partL l i
  · obtain ⟨k, h1, _, h2, _⟩ := part_some (l := l) (i := i) rfl h0
    omega
  · unfold partL at h0 ⊢
    split
    · rename_i k hk
      rw [hk] at h0
      simp only at h0
      omega
    · omega
/-- What is lifted: the block, what is around it. -/
theorem lift_at {l : List Tok} {p : Int} (h : 0 ≤ aroundL l p) (h2 : 0 ≤ aroundL l (aroundL l p)) : ∃ (b q : Nat) (z y : Tok), aroundL l p = (b : Int) ∧ aroundL l (b : Int) = (q : Int) ∧ l[b]? = some z ∧ z.k = 1 ∧ l[q]? = some y ∧ y.k = 1 ∧ (b : Int) < p ∧ liftSt l p = liftS l b q y := by
  obtain ⟨b, z, e1, e2, e3, e4⟩ := around_open (l := l) (p := p) (by omega)
  rw [e1] at h2
  obtain ⟨q, y, f1, f2, f3, f4⟩ := around_open (l := l) (p := (b : Int)) (by omega)
  refine ⟨b, q, z, y, e1, f1, e2, e3, f2, f3, e4, ?_⟩
  unfold liftSt
  rw [e1, f1]
  simp only [Int.toNat_natCast]
  rw [f2]
  rfl
theorem lift_zero {l : List Tok} {p : Int} : liftErr l p = 0 ↔ (houseCheck l).2 = 0 ∧ 0 ≤ p ∧ p ≤ l.length ∧ 0 ≤ aroundL l p ∧ 0 ≤ aroundL l (aroundL l p) ∧ remapErr l (liftSt l p) = 0 := by
  unfold liftErr
  by_cases h0 : placesErr l p p = 0
  · rw [if_neg (by omega)]
    obtain ⟨h1, h2, _, h3⟩ := places_zero.1 h0
    by_cases h4 : aroundL l p < 0 ∨ aroundL l (aroundL l p) < 0
    · rw [if_pos h4]
      exact ⟨fun h => absurd h (by decide), fun h => by omega⟩
    · rw [if_neg h4]
      exact ⟨fun h => ⟨h1, h2, h3, by omega, by omega, h⟩, fun h => h.2.2.2.2.2⟩
  · rw [if_pos h0]
    exact ⟨fun h => absurd h h0, fun h => absurd (places_zero.2 ⟨h.1, h.2.1, by omega, h.2.2.1⟩) h0⟩
theorem Lift_new {w : World} {F : Nat → Prop} {cb : Nat} {A : Option Addr} {c : Nat} {l : List Tok} {p : Int} (h : SchR w cb houseRules houseGroups) (hr : tokR.row w F A l) (hlc : l.length ≤ c) (hb : l.length ≤ 1048576 * 4) :
    Calls Tryz.prog 25 #[.pointer (some ⟨cb, 0, none⟩), .slice A l.length c, .int .i64 p] w (fun r w' => ∃ B' c', Told (toldS (liftSt l p) (liftErr l p)) B' c' (liftErr l p) w r w' ∧ (tokR.row w' (fun k => w.heap.size ≤ k) B' (toldS (liftSt l p) (liftErr l p)).sl ∧ (toldS (liftSt l p) (liftErr l p)).sl.length ≤ c' ∧ ((toldS (liftSt l p) (liftErr l p)).sl = [] → B' = none ∧ c' = 0)) ∧ (liftErr l p ≠ 0 → B' = none ∧ c' = 0)) := by
  have hpl := fun W (hW : Pure w W) => places_calls (f := p) (t := p) (c := c) (h.pure hW) (Rp.row_pure hr hW) hb
  have har := fun (at' : Int) W (hW : Pure w W) => around_calls (at' := at') (c := c) (Rp.row_pure hr hW) hb hlc
  by_cases h0 : placesErr l p p = 0
  · by_cases h4 : aroundL l p < 0 ∨ aroundL l (aroundL l p) < 0
    · have he : liftErr l p = 6 := by unfold liftErr; rw [if_neg (by omega), if_pos h4]
      rw [he]
      exact Lift_no (b := 0) (q := 0) (pb := 0) (pq := 0) (y := shutT) hr hlc hb hpl (har _) (har _) (by by_cases h5 : aroundL l p < 0; exact .inr (.inl ⟨h0, h5, rfl⟩); exact .inr (.inr ⟨h0, by omega, by omega, rfl⟩)) (toldS_refused (by decide))
    · obtain ⟨b, q, z, y, e1, e2, e3, e4, e5, e6, e7, e8⟩ := lift_at (l := l) (p := p) (by omega) (by omega)
      have he : liftErr l p = remapErr l (liftS l b q y) := by unfold liftErr; rw [if_neg (by omega), if_neg h4, e8]
      obtain ⟨hc, hp0, _, hp1⟩ := places_zero.1 h0
      have hl := house_len_le hc
      have hbl := (List.getElem?_eq_some_iff.1 e3).1
      rw [he, e8]
      have hP1 := fun W (hW : Pure w W) => Partner_open (c := c) (Rp.row_pure hr hW) hb hlc e3 e4
      have hP2 := fun W (hW : Pure w W) => Partner_open (c := c) (Rp.row_pure hr hW) hb hlc e5 e6
      have hA2 := har (aroundL l p)
      rw [e1, e2] at hA2
      have hA1 := har p
      rw [e1] at hA1
      have hT : ∀ V A1 c1, Pure w V → tokR.row V (fun _ => True) A1 (liftS l b q y).sl → (liftS l b q y).sl.length ≤ c1 → ((liftS l b q y).sl = [] → A1 = none ∧ c1 = 0) → Calls Tryz.prog 48 #[deskV cb A l.length c, (liftS l b q y).val A1 c1] V (Told (toldS (liftS l b q y) (remapErr l (liftS l b q y))) (toldB A1 (remapErr l (liftS l b q y))) (toldC c1 (remapErr l (liftS l b q y))) (remapErr l (liftS l b q y)) V) := fun V A1 c1 hV hrow hc1 hz =>
        tell_doc (s := liftS l b q y) (h.pure hV) (Rp.row_pure hr hV) hb hrow (by
          show List.length (_ ++ _) ≤ _
          rw [List.length_append]
          have : ∀ (P : Prop) [Decidable P] (t : Tok), (if P then [] else [t] : List Tok).length ≤ 1 := fun P _ t => by split <;> simp
          have h7 := this ((b : Int) = q + 1) shutT
          have h8 := this (partL l b + 1 = partL l q) y
          omega) (fun q0 q1 q2 => doc_arnd (house_ne hc) (Rp.row_pure hr hV) hlc hrow hc1 hz q0 q1 q2)
      have h2 : remapErr l (liftS l b q y) = 0 → (toldS (liftS l b q y) (remapErr l (liftS l b q y))).sl = (liftS l b q y).sl := fun h9 => by rw [h9]; rfl
      have h3 : remapErr l (liftS l b q y) ≠ 0 → (toldS (liftS l b q y) (remapErr l (liftS l b q y))).sl = [] := fun h9 => by rw [toldS_refused h9]; rfl
      have hb1 := part_bound (l := l) (i := b) hl
      have hb2 := part_bound (l := l) (i := q) hl
      by_cases hf : (b : Int) = (q : Int) + 1
      · by_cases hz : partL l b + 1 = partL l q
        · have hs : liftS l b q y = arnd q (partL l q + 1) b (partL l b + 1) 0 [] := by unfold liftS; rw [if_pos hf, if_pos hf, if_pos hf, if_pos hz, if_pos hz]; rfl
          rw [hs] at hT h2 h3 ⊢
          exact Lift_ff hr hlc hb hpl hA1 hA2 hP1 hP2 h0 rfl rfl hbl e5 hb1 hb2 hf hz hT h2 h3
        · have hs : liftS l b q y = arnd q (partL l b + 1) b (partL l b + 1) 0 [y] := by unfold liftS; rw [if_pos hf, if_pos hf, if_pos hf, if_neg hz, if_neg hz]; rfl
          rw [hs] at hT h2 h3 ⊢
          exact Lift_fn hr hlc hb hpl hA1 hA2 hP1 hP2 h0 rfl rfl hbl e5 hb1 hb2 hf hz hT h2 h3
      · by_cases hz : partL l b + 1 = partL l q
        · have hs : liftS l b q y = arnd b (partL l q + 1) b (partL l b + 1) 1 [shutT] := by unfold liftS; rw [if_neg hf, if_neg hf, if_neg hf, if_pos hz, if_pos hz]; rfl
          rw [hs] at hT h2 h3 ⊢
          exact Lift_nf hr hlc hb hpl hA1 hA2 hP1 hP2 h0 rfl rfl hbl e5 hb1 hb2 hf hz hT h2 h3
        · have hs : liftS l b q y = arnd b (partL l b + 1) b (partL l b + 1) 1 [shutT, y] := by unfold liftS; rw [if_neg hf, if_neg hf, if_neg hf, if_neg hz, if_neg hz]; rfl
          rw [hs] at hT h2 h3 ⊢
          exact Lift_nn hr hlc hb hpl hA1 hA2 hP1 hP2 h0 rfl rfl hbl e5 hb1 hb2 hf hz hT h2 h3
  · have he : liftErr l p = placesErr l p p := by unfold liftErr; rw [if_pos h0]
    rw [he]
    exact Lift_no (b := 0) (q := 0) (pb := 0) (pq := 0) (y := shutT) hr hlc hb hpl (har _) (har _) (.inl ⟨h0, rfl⟩) (toldS_refused h0)
theorem Lift_calls {w : World} {F : Nat → Prop} {cb : Nat} {A : Option Addr} {c : Nat} {l : List Tok} {p : Int} (h : SchR w cb houseRules houseGroups) (hr : tokR.row w F A l) (hlc : l.length ≤ c) (hb : l.length ≤ 1048576 * 4) :
    Calls Tryz.prog 25 #[.pointer (some ⟨cb, 0, none⟩), .slice A l.length c, .int .i64 p] w (fun r w' => ∃ B' c', Told (toldS (liftSt l p) (liftErr l p)) B' c' (liftErr l p) w r w' ∧ (tokR.row w' (fun _ => True) B' (toldS (liftSt l p) (liftErr l p)).sl ∧ (toldS (liftSt l p) (liftErr l p)).sl.length ≤ c' ∧ ((toldS (liftSt l p) (liftErr l p)).sl = [] → B' = none ∧ c' = 0)) ∧ (liftErr l p ≠ 0 → B' = none ∧ c' = 0)) :=
  (Lift_new h hr hlc hb).mono fun r w' ⟨B', c', h1, ⟨h2, h3, h5⟩, h4⟩ => ⟨B', c', h1, ⟨Rp.row_fp h2 (fun _ _ => trivial), h3, h5⟩, h4⟩
end Go.Proofs.YteeindicpbcjaaaGreatDoor
