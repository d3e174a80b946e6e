/- reg.types, reg.named, reg.Check: what they tell. -/
import Derived.Test.YtfapglhdakhbeaaGreatDoorExpr
namespace Go.Proofs.YtfapglhdakhbeaaGreatDoor
open Go.RowKit
set_option linter.unusedVariables false
set_option linter.unusedSimpArgs false

theorem bytes_ne {s u : ByteArray} (h : ¬ s = u) : (s.toList == u.toList) = false := by
  rw [beq_eq_false_iff_ne]
  intro e
  rw [ByteArray.toList_eq, ByteArray.toList_eq] at e
  exact h (ByteArray.ext (Array.toList_inj.1 e))

/-- The types of a name. -/
def typesOf : List Grp → ByteArray → List Int
  | [], _ => []
  | g :: r, nm => if g.name = nm then g.types else typesOf r nm

set_option maxRecDepth 100000 in
set_option maxHeartbeats 4000000 in
theorem types_calls {F : Nat → Prop} {A : Option Addr} {c : Nat} {g : List Grp} (nm : ByteArray) {w : World} (hr : grpR.row w F A g) (hb : g.length ≤ 1048576) :
    Calls Tryz.prog 198 #[.slice A g.length c, .string nm] w fun r w' => (∃ A1 c1, r = .returned (.slice A1 (typesOf g nm).length c1) ∧ (typesOf g nm).length ≤ c1 ∧ intR.row w F A1 (typesOf g nm)) ∧ Pure w w' := by
  have HR := As.mk hr
  clear hr
  go_enter Tryz.func198, Tryz.ntmps198
  go_wp2
  go_loopg [9] g.length (fun gg i wr => ∃ k : Nat, k + gg = g.length ∧ i = .int .i64 k ∧ As (typesOf (g.drop k) nm = typesOf g nm) ∧ As (Pure w wr))
  case atStart => exact ⟨0, by omega, rfl, ⟨rfl⟩, ⟨Upd.refl _ _⟩⟩
  case round =>
    obtain ⟨k, hk, rfl, HT, HP⟩ := hrel
    by_cases hlt : k < g.length
    · obtain ⟨x, hx⟩ : ∃ x, g[k]? = some x := ⟨_, List.getElem?_eq_getElem hlt⟩
      obtain ⟨b, o, A1, c1, rfl, hF, hbl, d0, d1, hle1, hrow1⟩ := grp_at (Rp.row_pure HR.out HP.out) hx
      obtain ⟨b', o', A1', c1', hA', hF', hbl', d0', d1', hle1', hrow1'⟩ := grp_at HR.out hx
      obtain ⟨g1, rfl⟩ : ∃ m, gk = m + 1 := ⟨gk - 1, by omega⟩
      have hd := drop_cons' hx
      rw [hd] at HT
      have HR1 := As.mk hrow1'
      have HK := As.mk hk
      obtain ⟨rfl, rfl⟩ : b = b' ∧ o = o' := by simpa using hA'
      have hsame := (HP.out.cell (o := o + k * 2 + 1) hbl' (fun h => h)).symm.trans d1
      rw [d1'] at hsame
      simp at hsame
      obtain ⟨rfl, rfl⟩ := hsame
      have HD' := As.mk hd
      clear hrow1 hrow1' hk hx d0' d1' hd
      by_cases hn : x.name = nm
      · have HV : As (x.types = typesOf g nm) := ⟨by rw [← HT.out, typesOf, if_pos hn]⟩
        subst hn
        clear HT
        go_wp2
        go_ret
        exact ⟨⟨A1', c1', by rw [← HV.out]; rfl, by rw [← HV.out]; exact hle1', by rw [← HV.out]; exact HR1.out⟩, HP.out.alloc _⟩
      · have HV : As (typesOf (g.drop (k + 1)) nm = typesOf g nm) := ⟨by rw [← HT.out, typesOf, if_neg hn]⟩
        have hn2 := bytes_ne hn
        clear HT
        go_wp2
        go_roundg g1
        case measure => omega
        case rel => exact ⟨k + 1, by have := HK.out; omega, by go_num, HV, ⟨HP.out.alloc _⟩⟩
    · have hkl : k = g.length := by omega
      subst hkl
      rw [List.drop_length] at HT
      have HT2 : As (typesOf g nm = []) := ⟨by rw [← HT.out]; rfl⟩
      clear HT
      go_wp2
      go_ret
      exact ⟨⟨none, 0, by rw [HT2.out]; rfl, by rw [HT2.out]; simp, by rw [HT2.out]; exact .inl rfl⟩, HP.out⟩

def idxP {α : Type} (P : α → Bool) : Nat → List α → Int
  | _, [] => -1
  | k, x :: r => if P x = true then (k : Int) else idxP P (k + 1) r
theorem idxP_any {α : Type} (P : α → Bool) (l : List α) (k : Nat) : decide (idxP P k l ≥ 0) = l.any P := by
  induction l generalizing k with
  | nil => rfl
  | cons x r ih =>
    by_cases h : P x = true
    · simp [idxP, h]
    · simp [idxP, h, ih]

abbrev Clo (bg : Nat) : Value := .func (.func 200) #[] #[.pointer (some ⟨bg, 0, none⟩)]
set_option maxRecDepth 100000 in
set_option maxHeartbeats 4000000 in
theorem IndexFunc_calls {F : Nat → Prop} {A : Option Addr} {c : Nat} {l : List Ex} {w : World} (bg : Nat) (P : Ex → Bool) (hr : exR.row w F A l) (hb : l.length ≤ 1048576 * 4)
    (hc : ∀ x ∈ l, ∀ A1 c1 w1, Pure w w1 → exR.row w1 F A1 x.l → Calls Tryz.prog 200 #[x.val A1 c1, .pointer (some ⟨bg, 0, none⟩)] w1 fun r w' => r = .returned (.bool (P x)) ∧ Pure w1 w') :
    Calls Tryz.prog 222 #[.slice A l.length c, Clo bg] w fun r w' => r = .returned (.int .i64 (idxP P 0 l)) ∧ Pure w w' := by
  have HR := As.mk hr
  have HC := As.mk hc
  clear hr hc
  go_enter Tryz.func222, Tryz.ntmps222
  go_wp2
  go_loopg [8] l.length (fun g i wr => ∃ k : Nat, k + g = l.length ∧ i = .int .i64 k ∧ As (idxP P k (l.drop k) = idxP P 0 l) ∧ As (Pure w wr))
  case atStart => exact ⟨0, by omega, rfl, ⟨rfl⟩, ⟨Upd.refl _ _⟩⟩
  case round =>
    obtain ⟨k, hk, rfl, HT, HP⟩ := hrel
    by_cases hlt : k < l.length
    · obtain ⟨x, hx⟩ : ∃ x, l[k]? = some x := ⟨_, List.getElem?_eq_getElem hlt⟩
      obtain ⟨b, o, A1, c1, rfl, hF, hbl, d0, d1, d2, hle1, hrow1⟩ := ex_at (Rp.row_pure HR.out HP.out) hx
      obtain ⟨g1, rfl⟩ : ∃ m, gk = m + 1 := ⟨gk - 1, by omega⟩
      rw [drop_cons' hx] at HT
      have HX := As.mk (List.mem_of_getElem? hx)
      have HR1 := As.mk hrow1
      have HK := As.mk hk
      clear hrow1 hk hx
      cases hq : P x
      · have HV : As (idxP P (k + 1) (l.drop (k + 1)) = idxP P 0 l) := ⟨by rw [← HT.out]; simp [idxP, hq]⟩
        clear HT
        go_wp2_with (go_at_call 200; refine (HC.out x HX.out _ c1 _ HP.out HR1.out).mono ?_; rintro e w1 ⟨rfl, hu⟩; rw [hq]; have HU := As.mk hu; clear hu)
        go_roundg g1
        case measure => omega
        case rel => exact ⟨k + 1, by have := HK.out; omega, by go_num, HV, ⟨HP.out.trans HU.out (fun _ _ h => h)⟩⟩
      · have HV : As ((k : Int) = idxP P 0 l) := ⟨by rw [← HT.out]; simp [idxP, hq]⟩
        clear HT
        go_wp2_with (go_at_call 200; refine (HC.out x HX.out _ c1 _ HP.out HR1.out).mono ?_; rintro e w1 ⟨rfl, hu⟩; rw [hq]; have HU := As.mk hu; clear hu)
        go_ret
        exact ⟨ret_int HV.out, HP.out.trans HU.out (fun _ _ h => h)⟩
    · have hkl : k = l.length := by omega
      subst hkl
      rw [List.drop_length] at HT
      have HV : As ((-1 : Int) = idxP P 0 l) := ⟨HT.out⟩
      clear HT
      go_wp2
      go_ret
      exact ⟨ret_int HV.out, HP.out⟩
set_option maxRecDepth 100000 in
set_option maxHeartbeats 4000000 in
theorem ContainsFunc_calls {F : Nat → Prop} {A : Option Addr} {c : Nat} {l : List Ex} {w : World} (bg : Nat) (P : Ex → Bool) (hr : exR.row w F A l) (hb : l.length ≤ 1048576 * 4)
    (hc : ∀ x ∈ l, ∀ A1 c1 w1, Pure w w1 → exR.row w1 F A1 x.l → Calls Tryz.prog 200 #[x.val A1 c1, .pointer (some ⟨bg, 0, none⟩)] w1 fun r w' => r = .returned (.bool (P x)) ∧ Pure w1 w') :
    Calls Tryz.prog 199 #[.slice A l.length c, Clo bg] w fun r w' => r = .returned (.bool (l.any P)) ∧ Pure w w' := by
  have HC := As.mk (IndexFunc_calls (c := c) bg P hr hb hc)
  have HV := As.mk (idxP_any P l 0)
  clear hr hc
  go_enter Tryz.func199, Tryz.ntmps199
  go_wp2_with (go_at_call 222; refine HC.out.mono ?_; rintro e w1 ⟨rfl, hu⟩; have HU := As.mk hu; clear hu)
  go_ret
  exact ⟨ret_bool HV.out, HU.out⟩

mutual
def Ex.namedB (g : List Grp) : Ex → Bool
  | .mk k nm l => if k = 1 then decide (0 < (typesOf g nm).length) else Ex.namedsB g l
def Ex.namedsB (g : List Grp) : List Ex → Bool
  | [] => true
  | x :: r => Ex.namedB g x && Ex.namedsB g r
end
theorem Ex.nameds_any (g : List Grp) (l : List Ex) : Ex.namedsB g l = !(l.any (fun x => !(Ex.namedB g x))) := by
  induction l with
  | nil => rfl
  | cons x r ih => simp [Ex.namedsB, ih]

set_option maxRecDepth 100000 in
set_option maxHeartbeats 4000000 in
theorem clo_calls {A B : Option Addr} {c d : Nat} {x : Ex} {g : List Grp} {w : World} (bg : Nat) (hbg : w.cell? ⟨bg, 0, none⟩ = some (.slice B g.length d)) (hbl : bg < w.heap.size)
    (HI : ∀ w1, Pure w w1 → Calls Tryz.prog 170 #[x.val A c, .slice B g.length d] w1 fun r w' => r = .returned (.bool (x.namedB g)) ∧ Pure w1 w') :
    Calls Tryz.prog 200 #[x.val A c, .pointer (some ⟨bg, 0, none⟩)] w fun r w' => r = .returned (.bool (!(x.namedB g))) ∧ Pure w w' := by
  have HC := As.mk HI
  clear HI
  obtain ⟨k0, nm, l⟩ := x
  go_enter Tryz.func200, Tryz.ntmps200
  go_wp2_with (go_at_call 170; refine (HC.out _ (Upd.alloc1 _ _ _)).mono ?_; rintro e w1 ⟨rfl, hu⟩; have HU := As.mk (Upd.trans (Upd.alloc1 (fun _ => False) _ _) hu (fun _ _ h => h)); clear hu)
  go_ret
  exact ⟨rfl, HU.out⟩

set_option maxRecDepth 100000 in
set_option maxHeartbeats 4000000 in
theorem named_all (N : Nat) : ∀ (e : Ex), e.wt ≤ N → N ≤ 1048576 * 4 → ∀ (F G : Nat → Prop) (A B : Option Addr) (c d : Nat) (g : List Grp) (w : World), exR.row w F A e.l → grpR.row w G B g → g.length ≤ 1048576 →
    Calls Tryz.prog 170 #[e.val A c, .slice B g.length d] w fun r w' => r = .returned (.bool (e.namedB g)) ∧ Pure w w' := by
  induction N with
  | zero => intro e he; have := e.wt_pos; omega
  | succ N ih =>
    intro e he hN F G A B c d g w hr hg hgl
    obtain ⟨k0, nm, l⟩ := e
    have HI := As.mk (fun (x : Ex) (hx : x.wt ≤ N) => ih x hx (by omega))
    have HR := As.mk hr
    have HG := As.mk hg
    have hc0 : Ex.wts l ≤ N := by simp only [Ex.wt] at he; omega
    have hll := Ex.wts_len l
    clear hr hg he ih
    by_cases h1 : k0 = 1
    · subst h1
      have HV : As (Ex.namedB g (.mk 1 nm l) = decide (0 < (typesOf g nm).length)) := ⟨by rw [Ex.namedB, if_pos rfl]⟩
      go_enter Tryz.func170, Tryz.ntmps170
      go_wp2_with (go_at_call 198; refine (types_calls nm (Rp.row_pure HG.out ((Upd.alloc1 (fun _ => False) _ _).alloc _)) hgl).mono ?_; rintro e w1 ⟨⟨A1, c1, rfl, _, _⟩, hu⟩; have HU := As.mk (Upd.trans ((Upd.alloc1 (fun _ => False) w _).alloc _) hu (fun _ _ h => h)); clear hu)
      go_ret
      exact ⟨ret_bool HV.out.symm, HU.out⟩
    · have e1 : (k0 == 1) = false := by simp [h1]
      have HV : As (Ex.namedB g (.mk k0 nm l) = !(l.any (fun x => !(Ex.namedB g x)))) := ⟨by rw [Ex.namedB, if_neg h1, Ex.nameds_any]⟩
      clear h1
      show Calls Tryz.prog 170 #[.agg #[.int .i64 k0, .string nm, .slice A l.length c], .slice B g.length d] w _
      have HB := As.mk (show Pure w ((w.alloc (.cells #[.int .i64 k0, .string nm, .slice A l.length c] 95)).alloc (.cells #[.slice B g.length d] 89)) from (Upd.alloc1 (fun _ => False) _ _).alloc _)
      have HC := As.mk (show ((w.alloc (.cells #[.int .i64 k0, .string nm, .slice A l.length c] 95)).alloc (.cells #[.slice B g.length d] 89)).cell? ⟨w.heap.size + 1, 0, none⟩ = some (.slice B g.length d) by
        have := heap_alloc_new (w.alloc (.cells #[.int .i64 k0, .string nm, .slice A l.length c] 95)) (.cells #[.slice B g.length d] 89)
        rw [show (w.alloc (.cells #[.int .i64 k0, .string nm, .slice A l.length c] 95)).heap.size = w.heap.size + 1 by simp] at this
        unfold World.cell?; simp only [this]; rfl)
      have HS := As.mk (show w.heap.size + 1 < ((w.alloc (.cells #[.int .i64 k0, .string nm, .slice A l.length c] 95)).alloc (.cells #[.slice B g.length d] 89)).heap.size by simp)
      generalize hw0 : (w.alloc (.cells #[.int .i64 k0, .string nm, .slice A l.length c] 95)).alloc (.cells #[.slice B g.length d] 89) = w0 at HB HC HS
      have HCF : As (Calls Tryz.prog 199 #[.slice A l.length c, Clo (w.heap.size + 1)] w0 fun r w' => r = .returned (.bool (l.any (fun x => !(x.namedB g)))) ∧ Pure w0 w') := ⟨by
        refine ContainsFunc_calls (F := F) (w.heap.size + 1) (fun x => !(x.namedB g)) (Rp.row_pure HR.out HB.out) (by omega) ?_
        intro x hx A1 c1 w1 hp hrow
        refine clo_calls (B := B) (d := d) _ ((hp.cell HS.out (fun h => h)).trans HC.out) (Nat.lt_of_lt_of_le HS.out hp.size) ?_
        intro w2 hp2
        exact HI.out x (Nat.le_trans (Ex.wt_mem hx) hc0) F G A1 B c1 d g w2 (Rp.row_pure hrow hp2) (Rp.row_pure (Rp.row_pure HG.out (HB.out.trans hp (fun _ _ h => h))) hp2) hgl⟩
      subst hw0
      go_enter Tryz.func170, Tryz.ntmps170
      go_wp2_with (go_at_call 199; refine HCF.out.mono ?_; rintro e w1 ⟨rfl, hu⟩; have HU := As.mk (HB.out.trans hu (fun _ _ h => h)); clear hu)
      go_ret
      exact ⟨ret_bool HV.out.symm, HU.out⟩
theorem named_calls {F G : Nat → Prop} {A B : Option Addr} {c d : Nat} {e : Ex} {g : List Grp} {w : World} (hr : exR.row w F A e.l) (hg : grpR.row w G B g) (hb : e.wt ≤ 1048576 * 4) (hgl : g.length ≤ 1048576) :
    Calls Tryz.prog 170 #[e.val A c, .slice B g.length d] w fun r w' => r = .returned (.bool (e.namedB g)) ∧ Pure w w' :=
  named_all (1048576 * 4) e hb (Nat.le_refl _) F G A B c d g w hr hg hgl

def outB (t : Int) : Bool := decide (t < 0) || decide (16 ≤ t)
def grpB (x : Grp) : Bool := decide (16 < x.types.length) || x.types.any outB
def longB (g : List Grp) : Bool := decide (16 < g.length) || g.any grpB
/-- What reg.Check tells. -/
def regCheck (e : Ex) (g : List Grp) : Int := if exprCheck e ≠ 0 then exprCheck e else if longB g = true then 1 else if e.namedB g = false then 6 else 0
theorem any_succ {α : Type} {f : α → Bool} {l : List α} {k : Nat} {x : α} (hx : l[k]? = some x) : (l.take (k + 1)).any f = ((l.take k).any f || f x) := by
  rw [List.take_add_one, hx, List.any_append]
  simp

set_option maxRecDepth 100000 in
set_option maxHeartbeats 4000000 in
theorem regCheck_calls {F G : Nat → Prop} {A B : Option Addr} {c d : Nat} {e : Ex} {g : List Grp} {w : World} (hr : exR.row w F A e.l) (hg : grpR.row w G B g) (hb : e.wt ≤ 1048576 * 4) (hgl : g.length ≤ 1048576) (hgt : ∀ x ∈ g, x.types.length ≤ 1048576) :
    Calls Tryz.prog 132 #[e.val A c, .slice B g.length d] w fun r w' => r = .returned (.int .i64 (regCheck e g)) ∧ Pure w w' := by
  obtain ⟨k0, nm, l⟩ := e
  have HR := As.mk hr
  have HG := As.mk hg
  have HB := As.mk hb
  have HGT := As.mk hgt
  clear hr hg hb hgt
  by_cases h0 : exprCheck (.mk k0 nm l) = 0
  · have HE := As.mk h0
    clear h0
    go_enter Tryz.func132, Tryz.ntmps132
    go_wp2_with (go_at_call 169; refine (exprCheck_calls (e := .mk k0 nm l) (c := c) (Rp.row_pure HR.out (Upd.alloc1 _ _ _)) HB.out).mono ?_; rintro e w1 ⟨rfl, hu⟩; rw [HE.out]; have HU := As.mk (Upd.trans (Upd.alloc1 (fun _ => False) _ _) hu (fun _ _ h => h)); have HX := As.mk ((BoxE.new w k0 nm l.length A c _).pure hu); clear hu)
    go_loopg [6, 21] g.length (fun gg lb i wr => ∃ k : Nat, k + gg = g.length ∧ i = .int .i64 k ∧ lb = .bool (decide (16 < g.length) || (g.take k).any grpB) ∧ As (Pure w wr ∧ BoxE w.heap.size k0 nm l.length A c wr))
    case atStart => exact ⟨0, by omega, rfl, by simp; try omega, ⟨HU.out, HX.out⟩⟩
    case round =>
      clear HX
      obtain ⟨k, hk, rfl, rfl, HB2⟩ := hrel
      obtain ⟨hp, hbx⟩ := HB2.out
      have HP := As.mk hp
      have HX := As.mk hbx
      obtain ⟨b0, b1, b2, b3⟩ := hbx
      by_cases hlt : k < g.length
      · obtain ⟨x, hx⟩ : ∃ x, g[k]? = some x := ⟨_, List.getElem?_eq_getElem hlt⟩
        obtain ⟨b, o, A1, c1, rfl, hF, hbl, d0, d1, hle1, hrow1⟩ := grp_at (Rp.row_pure HG.out hp) hx
        obtain ⟨b', o', A1', c1', hA', hF', hbl', d0', d1', hle1', hrow1'⟩ := grp_at HG.out hx
        obtain ⟨rfl, rfl⟩ : b = b' ∧ o = o' := by simpa using hA'
        have hsame := (hp.cell (o := o + k * 2 + 1) hbl' (fun h => h)).symm.trans d1
        rw [d1'] at hsame
        simp at hsame
        obtain ⟨rfl, rfl⟩ := hsame
        obtain ⟨g1, rfl⟩ : ∃ m, gk = m + 1 := ⟨gk - 1, by omega⟩
        have HT := As.mk (any_succ (f := grpB) hx)
        have HR1 := As.mk hrow1'
        have HK := As.mk hk
        have htl := HGT.out x (List.mem_of_getElem? hx)
        clear hk hx hp hrow1 hrow1' d0' d1'
        cases hb : (decide (16 < g.length) || (g.take k).any grpB)
        · have hb' := As.mk (Bool.or_eq_false_iff.1 hb)
          clear hb
          by_cases hlen : 16 < x.types.length
          · have hl2 : ((x.types.length : Int) > 16) := by omega
            go_wp2
            go_loopg [6, 35] x.types.length (fun g2 lb i wx => ∃ q : Nat, q + g2 = x.types.length ∧ i = .int .i64 q ∧ lb = .bool (true || (x.types.take q).any outB) ∧ As (Pure w wx ∧ BoxE w.heap.size k0 nm l.length A c wx) ∧ As (wr.heap.size < wx.heap.size ∧ wx.heap[wr.heap.size]? = some (.cells #[.string x.name, .slice A1' x.types.length c1'] 88)))
            case atStart => exact ⟨0, by omega, rfl, by simp, ⟨HP.out.alloc _, HX.out.pure (Upd.alloc1 _ _ _)⟩, ⟨by simp, heap_alloc_new wr _⟩⟩
            case round =>
              obtain ⟨q, hq, rfl, rfl, HP2, HW2⟩ := hrel
              by_cases hlt2 : q < x.types.length
              · obtain ⟨y, hy⟩ : ∃ y, x.types[q]? = some y := ⟨_, List.getElem?_eq_getElem hlt2⟩
                obtain ⟨g2, rfl⟩ : ∃ m, gk = m + 1 := ⟨gk - 1, by omega⟩
                obtain ⟨b2, o2, rfl, hF2, hbl2, y0⟩ := int_at (Rp.row_pure HR1.out HP2.out.1) hy
                have HT2 := As.mk (any_succ (f := outB) hy)
                have HQ := As.mk hq
                clear hq hy
                cases hb : (true || (x.types.take q).any outB)
                · exact absurd hb (by simp)
                · have hb' := As.mk hb
                  clear hb
                  go_wp2
                  go_roundg g2
                  case measure => omega
                  case rel => exact ⟨q + 1, by have := HQ.out; omega, by go_num, by rw [HT2.out, ← Bool.or_assoc, hb'.out]; simp, HP2, HW2⟩
              · have hql : q = x.types.length := by omega
                subst hql
                rw [List.take_length]
                go_wp2
                go_roundg g1
                case measure => omega
                case rel => exact ⟨k + 1, by have := HK.out; omega, by go_num, by rw [HT.out]; simp [grpB, hlen], HP2⟩
          · have hl2 : ¬ ((x.types.length : Int) > 16) := by omega
            go_wp2
            go_loopg [6, 35] x.types.length (fun g2 lb i wx => ∃ q : Nat, q + g2 = x.types.length ∧ i = .int .i64 q ∧ lb = .bool (false || (x.types.take q).any outB) ∧ As (Pure w wx ∧ BoxE w.heap.size k0 nm l.length A c wx) ∧ As (wr.heap.size < wx.heap.size ∧ wx.heap[wr.heap.size]? = some (.cells #[.string x.name, .slice A1' x.types.length c1'] 88)))
            case atStart => exact ⟨0, by omega, rfl, by simp, ⟨HP.out.alloc _, HX.out.pure (Upd.alloc1 _ _ _)⟩, ⟨by simp, heap_alloc_new wr _⟩⟩
            case round =>
              obtain ⟨q, hq, rfl, rfl, HP2, HW2⟩ := hrel
              by_cases hlt2 : q < x.types.length
              · obtain ⟨y, hy⟩ : ∃ y, x.types[q]? = some y := ⟨_, List.getElem?_eq_getElem hlt2⟩
                obtain ⟨g2, rfl⟩ : ∃ m, gk = m + 1 := ⟨gk - 1, by omega⟩
                obtain ⟨b2, o2, rfl, hF2, hbl2, y0⟩ := int_at (Rp.row_pure HR1.out HP2.out.1) hy
                have HT2 := As.mk (any_succ (f := outB) hy)
                have HQ := As.mk hq
                clear hq hy
                cases hb : (false || (x.types.take q).any outB)
                · have hb' := As.mk (Bool.or_eq_false_iff.1 hb)
                  clear hb
                  by_cases y1 : y < 0
                  · have HO : As (outB y = true) := ⟨by simp [outB, y1]⟩
                    go_wp2
                    go_roundg g2
                    case measure => omega
                    case rel => exact ⟨q + 1, by have := HQ.out; omega, by go_num, by rw [HT2.out, HO.out]; simp, HP2, HW2⟩
                  · by_cases y2 : 16 ≤ y
                    · have HO : As (outB y = true) := ⟨by simp [outB, y2]⟩
                      have y3 : y ≥ 16 := y2
                      go_wp2
                      go_roundg g2
                      case measure => omega
                      case rel => exact ⟨q + 1, by have := HQ.out; omega, by go_num, by rw [HT2.out, HO.out]; simp, HP2, HW2⟩
                    · have HO : As (outB y = false) := ⟨by simp [outB]; omega⟩
                      have y3 : ¬ y ≥ 16 := y2
                      go_wp2
                      go_roundg g2
                      case measure => omega
                      case rel => exact ⟨q + 1, by have := HQ.out; omega, by go_num, by rw [HT2.out, HO.out, hb'.out.2]; simp, HP2, HW2⟩
                · have hb' := As.mk hb
                  clear hb
                  go_wp2
                  go_roundg g2
                  case measure => omega
                  case rel => exact ⟨q + 1, by have := HQ.out; omega, by go_num, by rw [HT2.out, ← Bool.or_assoc, hb'.out]; simp, HP2, HW2⟩
              · have hql : q = x.types.length := by omega
                subst hql
                rw [List.take_length]
                go_wp2
                go_roundg g1
                case measure => omega
                case rel => exact ⟨k + 1, by have := HK.out; omega, by go_num, by rw [HT.out]; rw [← Bool.or_assoc, Bool.or_eq_false_iff.2 hb'.out]; simp [grpB, hlen], HP2⟩
        · have hb' := As.mk hb
          clear hb
          go_wp2
          go_loopg [6, 35] x.types.length (fun g2 lb i wx => ∃ q : Nat, q + g2 = x.types.length ∧ i = .int .i64 q ∧ lb = .bool (true || (x.types.take q).any outB) ∧ As (Pure w wx ∧ BoxE w.heap.size k0 nm l.length A c wx) ∧ As (wr.heap.size < wx.heap.size ∧ wx.heap[wr.heap.size]? = some (.cells #[.string x.name, .slice A1' x.types.length c1'] 88)))
          case atStart => exact ⟨0, by omega, rfl, by simp, ⟨HP.out.alloc _, HX.out.pure (Upd.alloc1 _ _ _)⟩, ⟨by simp, heap_alloc_new wr _⟩⟩
          case round =>
            obtain ⟨q, hq, rfl, rfl, HP2, HW2⟩ := hrel
            by_cases hlt2 : q < x.types.length
            · obtain ⟨y, hy⟩ : ∃ y, x.types[q]? = some y := ⟨_, List.getElem?_eq_getElem hlt2⟩
              obtain ⟨g2, rfl⟩ : ∃ m, gk = m + 1 := ⟨gk - 1, by omega⟩
              obtain ⟨b2, o2, rfl, hF2, hbl2, y0⟩ := int_at (Rp.row_pure HR1.out HP2.out.1) hy
              have HT2 := As.mk (any_succ (f := outB) hy)
              have HQ := As.mk hq
              clear hq hy
              cases hb : (true || (x.types.take q).any outB)
              · exact absurd hb (by simp)
              · have hb' := As.mk hb
                clear hb
                go_wp2
                go_roundg g2
                case measure => omega
                case rel => exact ⟨q + 1, by have := HQ.out; omega, by go_num, by rw [HT2.out, ← Bool.or_assoc, hb'.out]; simp, HP2, HW2⟩
            · have hql : q = x.types.length := by omega
              subst hql
              rw [List.take_length]
              go_wp2
              go_roundg g1
              case measure => omega
              case rel => exact ⟨k + 1, by have := HK.out; omega, by go_num, by rw [HT.out]; rw [← Bool.or_assoc, hb'.out]; simp, HP2⟩
      · have hkl : k = g.length := by omega
        subst hkl
        rw [List.take_length]
        cases hb : (decide (16 < g.length) || g.any grpB)
        · cases hn : (Ex.mk k0 nm l).namedB g
          · have HV : As ((6 : Int) = regCheck (.mk k0 nm l) g) := ⟨by unfold regCheck longB; rw [HE.out, hb, hn]; rfl⟩
            have HNM := As.mk (fun w1 (hu : Pure w w1) => named_calls (e := .mk k0 nm l) (c := c) (d := d) (Rp.row_pure HR.out hu) (Rp.row_pure HG.out hu) HB.out hgl)
            rw [hn] at HNM
            clear hb hn hp
            go_wp2_with (go_at_call 170; refine (HNM.out _ HP.out).mono ?_; rintro e w3 ⟨rfl, hu⟩; have HU3 := As.mk (HP.out.trans hu (fun _ _ h => h)); clear hu)
            go_ret
            exact ⟨ret_int HV.out, HU3.out⟩
          · have HV : As ((0 : Int) = regCheck (.mk k0 nm l) g) := ⟨by unfold regCheck longB; rw [HE.out, hb, hn]; rfl⟩
            have HNM := As.mk (fun w1 (hu : Pure w w1) => named_calls (e := .mk k0 nm l) (c := c) (d := d) (Rp.row_pure HR.out hu) (Rp.row_pure HG.out hu) HB.out hgl)
            rw [hn] at HNM
            clear hb hn hp
            go_wp2_with (go_at_call 170; refine (HNM.out _ HP.out).mono ?_; rintro e w3 ⟨rfl, hu⟩; have HU3 := As.mk (HP.out.trans hu (fun _ _ h => h)); clear hu)
            go_ret
            exact ⟨ret_int HV.out, HU3.out⟩
        · have HV : As ((1 : Int) = regCheck (.mk k0 nm l) g) := ⟨by unfold regCheck longB; rw [HE.out, hb]; rfl⟩
          clear hb hp
          go_wp2
          go_ret
          exact ⟨ret_int HV.out, HP.out⟩
  · have HV : As (exprCheck (.mk k0 nm l) = regCheck (.mk k0 nm l) g) := ⟨by unfold regCheck; rw [if_pos h0]⟩
    have e0 : (exprCheck (.mk k0 nm l) != 0) = true := by simp [h0]
    have HC := As.mk (fun W (h : exR.row W F A l) => exprCheck_calls (w := W) (e := .mk k0 nm l) (c := c) h HB.out)
    generalize exprCheck (.mk k0 nm l) = v at *
    clear h0
    go_enter Tryz.func132, Tryz.ntmps132
    go_wp2_with (go_at_call 169; refine (HC.out _ (Rp.row_pure HR.out (Upd.alloc1 _ _ _))).mono ?_; rintro e w1 ⟨rfl, hu⟩; have HU := As.mk (Upd.trans (Upd.alloc1 (fun _ => False) _ _) hu (fun _ _ h => h)); clear hu)
    go_ret
    exact ⟨ret_int HV.out, HU.out⟩
end Go.Proofs.YtfapglhdakhbeaaGreatDoor
