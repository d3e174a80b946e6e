/- Specs: how they lie in memory. schema.fits; slices.ContainsFunc at specs. Sets of texts (map[string]bool); schema.names. -/
import Derived.Test.YtfapglhdakhbeaaGreatDoorBase
import Derived.Test.YtfapglhdakhbeaaGreatDoorReg
import Derived.Test.YtfapglhdakhbeaaGreatDoorExpr
import Derived.Test.YtfapglhdakhbeaaGreatDoorProg
import Derived.Maps.RangeWalk
import Derived.Maps.OwnSet
import Derived.Maps.OwnOps
import Derived.ChangeKeys
namespace Go.Proofs.YtfapglhdakhbeaaGreatDoor
open Go.RowKit
set_option linter.unusedVariables false
set_option linter.unusedSimpArgs false

structure Spec where
  name : ByteArray
  expr : ByteArray
  leaf : Bool
  marks : Int
  least : Int
  most : Int
  lines : Bool
abbrev Spec.val (s : Spec) : Value := .agg #[.string s.name, .string s.expr, .bool s.leaf, .int .i64 s.marks, .int .i64 s.least, .int .i64 s.most, .bool s.lines]
abbrev Spec.cs (s : Spec) : List Value := [.string s.name, .string s.expr, .bool s.leaf, .int .i64 s.marks, .int .i64 s.least, .int .i64 s.most, .bool s.lines]
def specR : Rp Spec where
  sz := 7
  rep := fun _ _ x cs => cs = x.cs
  len := fun h => by rw [h]; rfl
  one := fun h u hu => by
    rw [h] at hu
    simp [Spec.cs] at hu
    rcases hu with rfl | rfl | rfl | rfl | rfl | rfl | rfl <;> rfl
  move := fun _ h => h
/-- A spec of a row that is read. -/
theorem spec_at {w : World} {F : Nat → Prop} {A : Option Addr} {xs : List Spec} (h : specR.row w F A xs) {j : Nat} {x : Spec} (hx : xs[j]? = some x) :
    ∃ b o, A = some ⟨b, o, none⟩ ∧ F b ∧ b < w.heap.size ∧ w.cell? ⟨b, o + j * 7, none⟩ = some (.string x.name) ∧ w.cell? ⟨b, o + j * 7 + 1, none⟩ = some (.string x.expr) ∧ w.cell? ⟨b, o + j * 7 + 2, none⟩ = some (.bool x.leaf) ∧ w.cell? ⟨b, o + j * 7 + 3, none⟩ = some (.int .i64 x.marks) ∧ w.cell? ⟨b, o + j * 7 + 4, none⟩ = some (.int .i64 x.least) ∧ w.cell? ⟨b, o + j * 7 + 5, none⟩ = some (.int .i64 x.most) ∧ w.cell? ⟨b, o + j * 7 + 6, none⟩ = some (.bool x.lines) := by
  obtain ⟨b, o, cs, hA, hF, hb, hr, hc⟩ := Rp.row_at h hx
  have hr' : cs = x.cs := hr
  subst hr'
  exact ⟨b, o, hA, hF, hb, hc 0 _ rfl, hc 1 _ rfl, hc 2 _ rfl, hc 3 _ rfl, hc 4 _ rfl, hc 5 _ rfl, hc 6 _ rfl⟩
end Go.Proofs.YtfapglhdakhbeaaGreatDoor
namespace Go.Proofs.YtfapglhdakhbeaaGreatDoor
open Go.RowKit
set_option linter.unusedVariables false
set_option linter.unusedSimpArgs false

def fitsB (s : Spec) : Bool := decide (0 ≤ s.marks) && decide (s.marks < 8) && decide (0 ≤ s.least) && decide (s.least ≤ s.most) && decide (s.most < 16) && (!s.leaf || decide (s.expr.size = 0))
set_option maxRecDepth 100000 in
set_option maxHeartbeats 4000000 in
theorem fits_calls (s : Spec) (w : World) : Calls Tryz.prog 129 #[s.val] w fun r w' => r = .returned (.bool (fitsB s)) ∧ Pure w w' := by
  have he := empty_is s.expr
  cases hq : decide (s.expr.size = 0)
  all_goals
    rw [hq] at he
    cases hl : s.leaf
    all_goals
      have HV := As.mk (show fitsB s = (decide (0 ≤ s.marks) && decide (s.marks < 8) && decide (0 ≤ s.least) && decide (s.least ≤ s.most) && decide (s.most < 16) && (!s.leaf || decide (s.expr.size = 0))) from rfl)
      rw [hq, hl] at HV
      obtain ⟨nm, ex, lf, mk, le, mo, ln⟩ := s
      dsimp only at hl he
      subst hl
      clear hq
      go_enter Tryz.func129, Tryz.ntmps129
      go_wp2
      all_goals go_ret
      all_goals exact ⟨ret_bool (by rw [HV.out]; rw [Bool.eq_iff_iff]; simp <;> omega), (Upd.refl _ _).alloc _⟩
abbrev CloS : Value := .func (.func 128) #[] #[]
set_option maxRecDepth 100000 in
set_option maxHeartbeats 4000000 in
theorem new1_calls (s : Spec) (w : World) : Calls Tryz.prog 128 #[s.val] w fun r w' => r = .returned (.bool (!fitsB s)) ∧ Pure w w' := by
  have HC := As.mk (fun W => fits_calls s W)
  generalize fitsB s = q at *
  obtain ⟨nm, ex, lf, mk, le, mo, ln⟩ := s
  go_enter Tryz.func128, Tryz.ntmps128
  go_wp2_with (go_at_call 129; refine (HC.out _).mono ?_; rintro e w1 ⟨rfl, hu⟩; have HU := As.mk hu; clear hu)
  go_ret
  exact ⟨rfl, (Upd.alloc1 _ _ _).trans HU.out (fun _ _ h => h)⟩
set_option maxRecDepth 100000 in
set_option maxHeartbeats 4000000 in
theorem IndexFuncS_calls {F : Nat → Prop} {A : Option Addr} {c : Nat} {l : List Spec} {w : World} (P : Spec → Bool) (hr : specR.row w F A l) (hb : l.length ≤ 1048576 * 4)
    (hc : ∀ x ∈ l, ∀ w1, Pure w w1 → Calls Tryz.prog 128 #[x.val] w1 fun r w' => r = .returned (.bool (P x)) ∧ Pure w1 w') :
    Calls Tryz.prog 166 #[.slice A l.length c, CloS] w fun r w' => r = .returned (.int .i64 (idxP P 0 l)) ∧ Pure w w' := by
  have HR := As.mk hr
  have HC := As.mk hc
  clear hr hc
  go_enter Tryz.func166, Tryz.ntmps166
  go_wp2
  go_loopg [8] l.length (fun g i wr => ∃ k : Nat, k + g = l.length ∧ i = .int .i64 k ∧ As (idxP P k (l.drop k) = idxP P 0 l) ∧ As (Pure w wr))
  case atStart => exact ⟨0, by omega, rfl, ⟨rfl⟩, ⟨Upd.refl _ _⟩⟩
  case round =>
    obtain ⟨k, hk, rfl, HT, HP⟩ := hrel
    by_cases hlt : k < l.length
    · obtain ⟨x, hx⟩ : ∃ x, l[k]? = some x := ⟨_, List.getElem?_eq_getElem hlt⟩
      obtain ⟨b, o, rfl, hF, hbl, d0, d1, d2, d3, d4, d5, d6⟩ := spec_at (Rp.row_pure HR.out HP.out) hx
      obtain ⟨g1, rfl⟩ : ∃ m, gk = m + 1 := ⟨gk - 1, by omega⟩
      rw [drop_cons' hx] at HT
      have HX := As.mk (List.mem_of_getElem? hx)
      have HK := As.mk hk
      clear hk hx
      cases hq : P x
      · have HV : As (idxP P (k + 1) (l.drop (k + 1)) = idxP P 0 l) := ⟨by rw [← HT.out]; simp [idxP, hq]⟩
        clear HT
        go_wp2_with (go_at_call 128; refine (HC.out x HX.out _ HP.out).mono ?_; rintro e w1 ⟨rfl, hu⟩; rw [hq]; have HU := As.mk hu; clear hu)
        go_roundg g1
        case measure => omega
        case rel => exact ⟨k + 1, by have := HK.out; omega, by go_num, HV, ⟨HP.out.trans HU.out (fun _ _ h => h)⟩⟩
      · have HV : As ((k : Int) = idxP P 0 l) := ⟨by rw [← HT.out]; simp [idxP, hq]⟩
        clear HT
        go_wp2_with (go_at_call 128; refine (HC.out x HX.out _ HP.out).mono ?_; rintro e w1 ⟨rfl, hu⟩; rw [hq]; have HU := As.mk hu; clear hu)
        go_ret
        exact ⟨ret_int HV.out, HP.out.trans HU.out (fun _ _ h => h)⟩
    · have hkl : k = l.length := by omega
      subst hkl
      rw [List.drop_length] at HT
      have HV : As ((-1 : Int) = idxP P 0 l) := ⟨HT.out⟩
      clear HT
      go_wp2
      go_ret
      exact ⟨ret_int HV.out, HP.out⟩
set_option maxRecDepth 100000 in
set_option maxHeartbeats 4000000 in
theorem ContainsFuncS_calls {F : Nat → Prop} {A : Option Addr} {c : Nat} {l : List Spec} {w : World} (P : Spec → Bool) (hr : specR.row w F A l) (hb : l.length ≤ 1048576 * 4)
    (hc : ∀ x ∈ l, ∀ w1, Pure w w1 → Calls Tryz.prog 128 #[x.val] w1 fun r w' => r = .returned (.bool (P x)) ∧ Pure w1 w') :
    Calls Tryz.prog 127 #[.slice A l.length c, CloS] w fun r w' => r = .returned (.bool (l.any P)) ∧ Pure w w' := by
  have HC := As.mk (IndexFuncS_calls (c := c) P hr hb hc)
  have HV := As.mk (idxP_any P l 0)
  clear hr hc
  go_enter Tryz.func127, Tryz.ntmps127
  go_wp2_with (go_at_call 166; refine HC.out.mono ?_; rintro e w1 ⟨rfl, hu⟩; have HU := As.mk hu; clear hu)
  go_ret
  exact ⟨ret_bool HV.out, HU.out⟩

end Go.Proofs.YtfapglhdakhbeaaGreatDoor
namespace Go.Proofs.YtfapglhdakhbeaaGreatDoor
open Go.RowKit
open Go.Maps (Keyed)
set_option linter.unusedVariables false
set_option linter.unusedSimpArgs false

theorem keyed_str : Keyed Tryz.prog 9 := Maps.string_keyed Tryz.underlying9
theorem key_str {s : ByteArray} (hs : s.size ≤ maxLen) : keyOf Tryz.prog 9 (.string s) = some (.string s.data.toList) := by
  rw [keyOf_string Tryz.underlying9]
  simp [mapKey, Tryz.underlying9, hs]
/-- Block b is a set of texts, of at most n. -/
def StrM (w : World) (b n : Nat) (S : ByteArray → Bool) : Prop := ∃ D : DataW Unit, w.ownsMap Tryz.prog 9 (plainElem Tryz.prog 4) b n D ∧ ∀ x : ByteArray, D.atKey (.string x.data.toList) (.lit (.bool false)) = .lit (.bool (S x))
theorem StrM.kept {w w1 : World} {b n : Nat} {S : ByteArray → Bool} {R : Nat → Prop} (h : StrM w b n S) (hu : Upd R w w1) (hR : ¬ R b) : StrM w1 b n S := by
  obtain ⟨D, hD, hS⟩ := h
  obtain ⟨es, clock, h1, h2⟩ := hD
  exact ⟨D, ⟨es, clock, by rw [hu.block b (Array.getElem?_eq_some_iff.1 h1).1 hR]; exact h1, h2⟩, hS⟩
theorem StrM.lt {w : World} {b n : Nat} {S : ByteArray → Bool} (h : StrM w b n S) : b < w.heap.size := by
  obtain ⟨D, hD, _⟩ := h
  exact hD.lt
theorem StrM.made (w : World) : StrM (w.alloc (.map #[] 0)) w.heap.size 0 (fun _ => false) := ⟨.map [], World.ownsMap_made _ _ _ _, fun x => rfl⟩
theorem StrM.put {S : ByteArray → Bool} {D : DataW Unit} (hD : Maps.IsMap D) (hS : ∀ x : ByteArray, D.atKey (.string x.data.toList) (.lit (.bool false)) = .lit (.bool (S x))) (s x : ByteArray) :
    (D.put (.string s.data.toList) (.lit (.bool true))).atKey (.string x.data.toList) (.lit (.bool false)) = .lit (.bool (S x || decide (x = s))) := by
  by_cases h : x = s
  · subst h
    rw [Maps.atKey_put_same hD (by trivial)]
    simp
  · rw [Maps.atKey_put_other (by
      intro e
      apply h
      injection e with e
      cases x; cases s
      simp at e
      rw [e])]
    rw [hS x]
    simp [h]

/-- The look-up of a bool. -/
theorem wpList_lookup_own_bool {H : Type} {P : Program} (w : World) {ops : Array Oper} {rest : List Oper} {o : Oper} {a : Act} {Q : Exit → Act → World → Prop}
    (hwd : Region.wanted o (yielded ops a.tmps) = true) (m x : Operand) (t : TypeId) (hop : o.op = Op.lookup t m x false)
    (k e : TypeId) (K : Keyed P k) (ht : P.underlying t = some (.map k e)) (he : P.underlying e = some .bool) (hz : (zeroValue e).run P w = .ok (.bool false) w) (b n : Nat) (D : DataW H)
    (hm : a.eval m = .map (some b)) (hown : w.ownsMap P k (plainElem P e) b n D) (key : Value) (kl : Lit) (hx : a.eval x = key) (hkey : keyOf P k key = some kl)
    (c : Bool) (hat : D.atKey kl (.lit (.bool false)) = .lit (.bool c))
    (hK : wpList P ops Q rest (a.put o.dst (.bool c)) w) :
    wpList P ops Q (o :: rest) a w := by
  refine wpList_step fun K' hK' => ?_
  rw [if_pos hwd]
  obtain ⟨v, ps, hrun, hv⟩ := hown.lookup K ht hz (plainElem_bool he false) hkey
  have hvc : v = .bool c := by
    rw [hat] at hv
    cases v <;> simp [plainElem, he] at hv
    rw [hv.1]
  subst hvc
  unfold Oper.wp
  simp [execOp, hop, hm, hx, hrun, Result.andThen]
  exact hK' _ _ hK

/-- The element of a map's literal. -/
theorem wpList_insert_own' {H : Type} {P : Program} (w : World) {ops : Array Oper} {rest : List Oper} {o : Oper} {a : Act} {Q : Exit → Act → World → Prop}
    (hwd : Region.wanted o (yielded ops a.tmps) = true) (m x v : Operand) (t : TypeId) (hop : o.op = Op.insert t m x v)
    (k e : TypeId) (K : Keyed P k) (ht : P.underlying t = some (.map k e)) (R : Value → Option (DataW H × List MemPlace)) (b n : Nat) (D : DataW H)
    (hm : a.eval m = .map (some b)) (hown : w.ownsMap P k R b n D) (hn : n < maxLen) (key val : Value) (kl : Lit) (hx : a.eval x = key) (hv : a.eval v = val) (hkey : keyOf P k key = some kl)
    (d : DataW H) (ps : List MemPlace) (hval : R val = some (d, ps))
    (hK : ∀ w', w'.ownsMap P k R b (n + 1) (D.put kl d) → w.grownBy w' (some b) → wpList P ops Q rest (a.put o.dst undef) w') :
    wpList P ops Q (o :: rest) a w := by
  refine wpList_step fun K' hK' => ?_
  rw [if_pos hwd]
  obtain ⟨w', hrun, r1, r2⟩ := hown.update K ht hn hkey hval
  unfold Oper.wp
  simp [execOp, hop, hm, hx, hv, hrun, Result.andThen]
  exact hK' _ _ (hK w' r1 r2)


set_option maxRecDepth 100000 in
set_option maxHeartbeats 4000000 in
theorem fresh_calls {w : World} {b n sb : Nat} {S : ByteArray → Bool} {s : ByteArray} (h : StrM w b n S) (hc : w.cell? ⟨sb, 0, none⟩ = some (.map (some b))) (hne : sb ≠ b) (hs : s.size ≤ 1048576 * 4) (hn : n ≤ 1000000) :
    Calls Tryz.prog 164 #[.string s, .pointer (some ⟨sb, 0, none⟩)] w fun r w' => r = .returned (.bool (nameB s && !S s)) ∧ StrM w' b (n + 1) (fun x => S x || decide (x = s)) ∧ Upd (fun q => q = b) w w' := by
  have hsb := World.block_lt_of_cell? w _ hc
  obtain ⟨D, hD, hS⟩ := h
  have HD := As.mk hD
  have HSS := As.mk hS
  have HN := As.mk (Name_calls s w hs)
  have HK := As.mk (key_str (s := s) (by unfold maxLen; omega))
  have hzb := fun W : World => (by kernel_rfl : (zeroValue 4).run Tryz.prog W = .ok (.bool false) W)
  have HZ := As.mk hzb
  clear hD hS hzb
  cases hq : nameB s
  · rw [hq] at HN
    go_enter Tryz.func164, Tryz.ntmps164
    go_wp2_with (go_at_call 165; refine HN.out.mono ?_; rintro e w1 ⟨rfl, hu⟩; have HU := As.mk hu; have HC1 := As.mk ((hu.cell hsb (fun h => h)).trans hc); clear hu; apply As.out)
    refine ⟨?_⟩
    have c1 := HC1.out
    have HD1 : As (w1.ownsMap Tryz.prog 9 (plainElem Tryz.prog 4) b n D) := ⟨by
      obtain ⟨es, clock, h1, h2⟩ := HD.out
      exact ⟨es, clock, by rw [HU.out.block b (Array.getElem?_eq_some_iff.1 h1).1 (fun h => h)]; exact h1, h2⟩⟩
    go_wp2_with (at_mapUpdate; refine wpList_mapUpdate_own _ rfl _ _ _ 211 rfl 9 4 keyed_str Tryz.underlying211 _ b n D rfl HD1.out (by unfold maxLen; omega) _ _ _ rfl rfl HK.out _ [] (plainElem_bool Tryz.underlying4 true) ?_; intro w2 hown2 hg2)
    go_ret
    exact ⟨rfl, ⟨_, hown2, fun x => StrM.put (World.ownsMap.isMap HD.out) HSS.out s x⟩, (HU.out.mono (fun _ _ h => h.elim)).trans (Upd.grown1 (S := fun q => q = b) hg2 (fun q hq => by injection hq with hq; exact hq.symm)) (fun _ _ h => h)⟩
  · rw [hq] at HN
    go_enter Tryz.func164, Tryz.ntmps164
    go_wp2_with (go_at_call 165; refine HN.out.mono ?_; rintro e w1 ⟨rfl, hu⟩; have HU := As.mk hu; have HC1 := As.mk ((hu.cell hsb (fun h => h)).trans hc); clear hu; apply As.out)
    refine ⟨?_⟩
    have c1 := HC1.out
    have HD1 : As (w1.ownsMap Tryz.prog 9 (plainElem Tryz.prog 4) b n D) := ⟨by
      obtain ⟨es, clock, h1, h2⟩ := HD.out
      exact ⟨es, clock, by rw [HU.out.block b (Array.getElem?_eq_some_iff.1 h1).1 (fun h => h)]; exact h1, h2⟩⟩
    go_wp2_with (first | (at_lookup; refine wpList_lookup_own_bool _ (by rfl) _ _ 211 rfl 9 4 keyed_str Tryz.underlying211 Tryz.underlying4 (HZ.out _) b n D rfl HD1.out _ _ rfl HK.out (S s) (HSS.out s) ?_) | (at_mapUpdate; refine wpList_mapUpdate_own _ rfl _ _ _ 211 rfl 9 4 keyed_str Tryz.underlying211 _ b n D rfl HD1.out (by unfold maxLen; omega) _ _ _ rfl rfl HK.out _ [] (plainElem_bool Tryz.underlying4 true) ?_; intro w2 hown2 hg2))
    go_ret
    exact ⟨by simp; try rfl, ⟨_, hown2, fun x => StrM.put (World.ownsMap.isMap HD.out) HSS.out s x⟩, (HU.out.mono (fun _ _ h => h.elim)).trans (Upd.grown1 (S := fun q => q = b) hg2 (fun q hq => by injection hq with hq; exact hq.symm)) (fun _ _ h => h)⟩

/-- All names are names, each once, and none was there. -/
def freshAll : List ByteArray → (ByteArray → Bool) → Bool
  | [], _ => true
  | s :: r, S => (nameB s && !S s) && freshAll r (fun x => S x || decide (x = s))
def textName : ByteArray := ⟨#[116, 101, 120, 116]⟩
def namesB (l : List Spec) (g : List Grp) : Bool := freshAll (l.map (·.name) ++ g.map (·.name)) (fun x => decide (x = textName))

structure NamR (w : World) (b sb n : Nat) (S : ByteArray → Bool) (wr : World) : Prop where
  set : StrM wr b n S
  c : wr.cell? ⟨sb, 0, none⟩ = some (.map (some b))
  up : Pure w wr
theorem NamR.step {w wr w2 : World} {b sb n : Nat} {S S' : ByteArray → Bool} (h : NamR w b sb n S wr) (hne : sb ≠ b) (hb : w.heap.size ≤ b) (o : Obj) (hs : StrM w2 b (n + 1) S') (hu : Upd (fun q => q = b) (wr.alloc o) w2) : NamR w b sb (n + 1) S' w2 := by
  have hsb := World.block_lt_of_cell? wr _ h.c
  refine ⟨hs, ?_, (h.up.trans (Upd.alloc1 (fun _ => False) wr o) (fun _ _ h => h)).trans hu (fun q hq e => by omega)⟩
  have hc1 : (wr.alloc o).cell? ⟨sb, 0, none⟩ = some (.map (some b)) := ((Upd.alloc1 (fun _ => False) wr o).cell hsb (fun h => h)).trans h.c
  exact (hu.cell (World.block_lt_of_cell? (wr.alloc o) _ hc1) hne).trans hc1

set_option maxRecDepth 100000 in
set_option maxHeartbeats 4000000 in
theorem names_calls {w : World} {F G : Nat → Prop} {A Bg : Option Addr} {c d : Nat} {l : List Spec} {g : List Grp} (hr : specR.row w F A l) (hg : grpR.row w G Bg g) (hl : l.length ≤ 1000) (hgl : g.length ≤ 1000) (hls : ∀ x ∈ l, x.name.size ≤ 1048576 * 4) (hgs : ∀ x ∈ g, x.name.size ≤ 1048576 * 4) :
    Calls Tryz.prog 126 #[.slice A l.length c, .slice Bg g.length d] w fun r w' => r = .returned (.bool (namesB l g)) ∧ Pure w w' := by
  have HR := As.mk hr
  have HG := As.mk hg
  have HLS := As.mk hls
  have HGS := As.mk hgs
  have HNB := As.mk (show namesB l g = freshAll (l.map (·.name) ++ g.map (·.name)) (fun x => decide (x = textName)) from rfl)
  have hmm := @run_makeMap Tryz.prog
  have HMADE := As.mk (World.ownsMap_made (H := Unit) w Tryz.prog 9 (plainElem Tryz.prog 4))
  have HK := As.mk (key_str (s := textName) (by decide))
  clear hr hg hls hgs
  go_enter Tryz.func126, Tryz.ntmps126
  go_wp2_with (refine wpList_insert_own' _ rfl _ _ _ 211 rfl 9 4 keyed_str Tryz.underlying211 _ w.heap.size 0 _ rfl HMADE.out (by unfold maxLen; omega) _ _ _ rfl rfl HK.out _ [] (plainElem_bool Tryz.underlying4 true) (fun w1 hown1 hg1 => As.out ?_))
  refine ⟨?_⟩
  have hset1 : StrM w1 w.heap.size 1 (fun x => decide (x = textName)) := ⟨_, hown1, fun x => by
    have := StrM.put (S := fun _ => false) (D := .map []) (World.ownsMap.isMap HMADE.out) (fun _ => rfl) textName x
    rw [this]
    simp⟩
  have hup1 : Pure w w1 := (Upd.alloc1 (fun _ => False) w (.map #[] 0)).trans (Upd.grown1 (S := fun q => q = w.heap.size) hg1 (fun q hq => by injection hq with hq; exact hq.symm)) (fun q hq h => by omega)
  have hz1 : w.heap.size < w1.heap.size := hset1.lt
  have HST := As.mk (hset1.kept (Upd.alloc1 (fun _ => False) w1 (.cells #[.map (some w.heap.size)] 211)) (fun h => h))
  have hsb0 := heap_alloc_new w1 (.cells #[.map (some w.heap.size)] 211)
  have HSB : As ((w1.alloc (.cells #[.map (some w.heap.size)] 211)).cell? ⟨w1.heap.size, 0, none⟩ = some (.map (some w.heap.size))) := ⟨by unfold World.cell?; simp only [hsb0]; rfl⟩
  have HPW := As.mk (hup1.alloc (.cells #[.map (some w.heap.size)] 211))
  clear hset1 hup1 hown1 hg1 hsb0
  go_wp2
  go_loopg [16] l.length (fun gg i wr => ∃ (k n : Nat) (S : ByteArray → Bool), k + gg = l.length ∧ i = .int .i64 k ∧ n = k + 1 ∧ As (NamR w w.heap.size w1.heap.size n S wr ∧ freshAll ((l.map (·.name) ++ g.map (·.name)).drop k) S = namesB l g))
  case atStart => exact ⟨0, 1, _, by omega, rfl, rfl, ⟨⟨HST.out, HSB.out, HPW.out⟩, rfl⟩⟩
  case round =>
    obtain ⟨k, n, S, hk, rfl, hnk, HP⟩ := hrel
    by_cases hlt : k < l.length
    · obtain ⟨x, hx⟩ : ∃ x, l[k]? = some x := ⟨_, List.getElem?_eq_getElem hlt⟩
      obtain ⟨g1, rfl⟩ : ∃ m, gk = m + 1 := ⟨gk - 1, by omega⟩
      obtain ⟨bx, ox, rfl, hFb, hbb, d0, d1, d2, d3, d4, d5, d6⟩ := spec_at (Rp.row_pure HR.out HP.out.1.up) hx
      have hdr : (l.map (·.name) ++ g.map (·.name)).drop k = x.name :: (l.map (·.name) ++ g.map (·.name)).drop (k + 1) := by
        have hg0 : (l.map (·.name) ++ g.map (·.name))[k]? = some x.name := by rw [List.getElem?_append_left (by simpa using hlt), List.getElem?_map, hx]; rfl
        obtain ⟨hl0, he0⟩ := List.getElem?_eq_some_iff.1 hg0
        rw [List.drop_eq_getElem_cons hl0, he0]
      have hfa := HP.out.2
      rw [hdr] at hfa
      have HFA := As.mk hfa
      have hsbl : w1.heap.size < wr.heap.size := World.block_lt_of_cell? wr _ HP.out.1.c
      have HFR := As.mk (fresh_calls (sb := w1.heap.size) (b := w.heap.size) (s := x.name) (HP.out.1.set.kept (Upd.alloc1 (fun _ => False) wr (.cells #[.string x.name, .string x.expr, .bool x.leaf, .int .i64 x.marks, .int .i64 x.least, .int .i64 x.most, .bool x.lines] 34)) (fun h => h)) (((Upd.alloc1 (fun _ => False) wr (.cells #[.string x.name, .string x.expr, .bool x.leaf, .int .i64 x.marks, .int .i64 x.least, .int .i64 x.most, .bool x.lines] 34)).cell hsbl (fun h => h)).trans HP.out.1.c) (by omega) (HLS.out x (List.mem_of_getElem? hx)) (by omega))
      have HK := As.mk hk
      have HHS := As.mk hx
      clear hk hx hdr hfa
      cases hq : (nameB x.name && !S x.name)
      · rw [hq] at HFR
        have HQ := As.mk (show namesB l g = false by rw [← HFA.out]; simp only [freshAll, hq, Bool.false_and])
        clear hq
        go_wp2_with (go_at_call 164; refine HFR.out.mono ?_; rintro e w2 ⟨rfl, hs, hu⟩; have HU := As.mk hu; clear hu hs)
        go_ret
        exact ⟨by rw [HQ.out]; rfl, (HP.out.1.up.alloc _).trans HU.out (fun q hq h => by omega)⟩
      · rw [hq] at HFR
        have HQ := As.mk (show freshAll ((l.map (·.name) ++ g.map (·.name)).drop (k + 1)) (fun y => S y || decide (y = x.name)) = namesB l g by rw [← HFA.out]; simp only [freshAll, hq, Bool.true_and])
        clear hq
        go_wp2_with (go_at_call 164; refine HFR.out.mono ?_; rintro e w2 ⟨rfl, hs, hu⟩; have HS2 := As.mk hs; have HU := As.mk hu; clear hu hs)
        go_roundg g1
        case measure => omega
        case rel => exact ⟨k + 1, n + 1, _, by have := HK.out; omega, by go_num, by omega, ⟨HP.out.1.step (by omega) (Nat.le_refl _) _ HS2.out HU.out, HQ.out⟩⟩
    · obtain rfl : k = l.length := by omega
      have HP' := As.mk HP.out
      go_wp2
      go_loopg [28] g.length (fun gg i wr => ∃ (k n : Nat) (S : ByteArray → Bool), k + gg = g.length ∧ i = .int .i64 k ∧ n = (l.length + k) + 1 ∧ As (NamR w w.heap.size w1.heap.size n S wr ∧ freshAll ((l.map (·.name) ++ g.map (·.name)).drop (l.length + k)) S = namesB l g))
      case atStart => exact ⟨0, n, S, by omega, rfl, by omega, HP⟩
      case round =>
        obtain ⟨k, n, S, hk, rfl, hnk, HP⟩ := hrel
        by_cases hlt : k < g.length
        · obtain ⟨x, hx⟩ : ∃ x, g[k]? = some x := ⟨_, List.getElem?_eq_getElem hlt⟩
          obtain ⟨g1, rfl⟩ : ∃ m, gk = m + 1 := ⟨gk - 1, by omega⟩
          obtain ⟨bx, ox, A1x, c1x, rfl, hFb, hbb, d0, d1, _, _⟩ := grp_at (Rp.row_pure HG.out HP.out.1.up) hx
          have hdr : (l.map (·.name) ++ g.map (·.name)).drop (l.length + k) = x.name :: (l.map (·.name) ++ g.map (·.name)).drop ((l.length + k) + 1) := by
            have hg0 : (l.map (·.name) ++ g.map (·.name))[(l.length + k)]? = some x.name := by rw [List.getElem?_append_right (by simp), List.length_map, Nat.add_sub_cancel_left, List.getElem?_map, hx]; rfl
            obtain ⟨hl0, he0⟩ := List.getElem?_eq_some_iff.1 hg0
            rw [List.drop_eq_getElem_cons hl0, he0]
          have hfa := HP.out.2
          rw [hdr] at hfa
          have HFA := As.mk hfa
          have hsbl : w1.heap.size < wr.heap.size := World.block_lt_of_cell? wr _ HP.out.1.c
          have HFR := As.mk (fresh_calls (sb := w1.heap.size) (b := w.heap.size) (s := x.name) (HP.out.1.set.kept (Upd.alloc1 (fun _ => False) wr (.cells #[.string x.name, .slice A1x x.types.length c1x] 88)) (fun h => h)) (((Upd.alloc1 (fun _ => False) wr (.cells #[.string x.name, .slice A1x x.types.length c1x] 88)).cell hsbl (fun h => h)).trans HP.out.1.c) (by omega) (HGS.out x (List.mem_of_getElem? hx)) (by omega))
          have HK := As.mk hk
          have HHS := As.mk hx
          clear hk hx hdr hfa
          cases hq : (nameB x.name && !S x.name)
          · rw [hq] at HFR
            have HQ := As.mk (show namesB l g = false by rw [← HFA.out]; simp only [freshAll, hq, Bool.false_and])
            clear hq
            go_wp2_with (go_at_call 164; refine HFR.out.mono ?_; rintro e w2 ⟨rfl, hs, hu⟩; have HU := As.mk hu; clear hu hs)
            go_ret
            exact ⟨by rw [HQ.out]; rfl, (HP.out.1.up.alloc _).trans HU.out (fun q hq h => by omega)⟩
          · rw [hq] at HFR
            have HQ := As.mk (show freshAll ((l.map (·.name) ++ g.map (·.name)).drop ((l.length + k) + 1)) (fun y => S y || decide (y = x.name)) = namesB l g by rw [← HFA.out]; simp only [freshAll, hq, Bool.true_and])
            clear hq
            go_wp2_with (go_at_call 164; refine HFR.out.mono ?_; rintro e w2 ⟨rfl, hs, hu⟩; have HS2 := As.mk hs; have HU := As.mk hu; clear hu hs)
            go_roundg g1
            case measure => omega
            case rel => exact ⟨k + 1, n + 1, _, by have := HK.out; omega, by go_num, by omega, ⟨HP.out.1.step (by omega) (Nat.le_refl _) _ HS2.out HU.out, HQ.out⟩⟩
        · obtain rfl : k = g.length := by omega
          have HQ := As.mk (show namesB l g = true by
            rw [← HP.out.2, List.drop_eq_nil_of_le (by simp)]
            rfl)
          go_wp2
          go_ret
          exact ⟨by rw [HQ.out]; rfl, HP.out.1.up⟩
end Go.Proofs.YtfapglhdakhbeaaGreatDoor
