/- Sets of places (map[int]bool); reg.machine.step's closure. reg.machine.step: its closure, and it. A set of places is small. reg.machine.step. reg.machine.run and ends. The machine of a right tree may be run; what a language says, reckoned. -/
import Derived.Test.YtfapglhdakhbeaaGreatDoorMade
import Derived.Maps.RangeWalk
import Derived.Maps.OwnSet
namespace Go.Proofs.YtfapglhdakhbeaaGreatDoor
open Go.RowKit
open Go.Maps (Keyed)
set_option linter.unusedVariables false
set_option linter.unusedSimpArgs false

theorem keyed_int : Keyed Tryz.prog 3 := Maps.int_keyed Tryz.underlying3
/-- Block b is a set of ints, of at most n. -/
def SetM (w : World) (b n : Nat) (S : Int → Bool) : Prop := ∃ D : DataW Unit, w.ownsMap Tryz.prog 3 (plainElem Tryz.prog 4) b n D ∧ ∀ x, (Lit.int .i64 x).wf = true → Maps.has D (.int .i64 x) = S x
theorem SetM.made (w : World) : SetM (w.alloc (.map #[] 0)) w.heap.size 0 (fun _ => false) := ⟨.map [], World.ownsMap_made _ _ _ _, fun x _ => rfl⟩
theorem SetM.kept {w w1 : World} {b n : Nat} {S : Int → Bool} {R : Nat → Prop} (h : SetM w b n S) (hu : Upd R w w1) (hR : ¬ R b) : SetM w1 b n S := by
  obtain ⟨D, hD, hS⟩ := h
  obtain ⟨es, clock, h1, h2⟩ := hD
  exact ⟨D, ⟨es, clock, by rw [hu.block b (Array.getElem?_eq_some_iff.1 h1).1 hR]; exact h1, h2⟩, hS⟩
theorem SetM.lt {w : World} {b n : Nat} {S : Int → Bool} (h : SetM w b n S) : b < w.heap.size := by
  obtain ⟨D, hD, _⟩ := h
  exact hD.lt
theorem has_put {D : DataW Unit} (hD : Maps.IsMap D) (x y : Int) (d : DataW Unit) (hx : (Lit.int .i64 x).wf = true) : Maps.has (D.put (.int .i64 x) d) (.int .i64 y) = (Maps.has D (.int .i64 y) || decide (y = x)) := by
  by_cases h : y = x
  · subst h
    rw [Maps.has_put_same hD (by trivial) d]
    simp
  · rw [Maps.has_put_other (by simpa using h) d]
    simp [h]
end Go.Proofs.YtfapglhdakhbeaaGreatDoor
namespace Go.Proofs.YtfapglhdakhbeaaGreatDoor
open Go.RowKit
open Go.Maps (Keyed)
set_option linter.unusedVariables false
set_option linter.unusedSimpArgs false

/-- Which places of a list a type may come to. -/
def addS (ts : List (List Int)) (t : Int) (l : List Int) (y : Int) : Bool := l.any (fun a => decide (a = y) && decide (t ∈ ts.getD a.toNat []))

theorem tyrow_at {w : World} {R : Nat → Prop} {A : Option Addr} {ts : List (List Int)} (h : intR.slice.row w R A ts) {n : Nat} {x : List Int} (hx : ts[n]? = some x) :
    ∃ b o A1 c1, A = some ⟨b, o, none⟩ ∧ b < w.heap.size ∧ w.cell? ⟨b, o + n, none⟩ = some (.slice A1 x.length c1) ∧ intR.row w R A1 x := by
  obtain ⟨b, o, cs, hA, _, hb, ⟨A1, c1, rfl, _, hr⟩, hc⟩ := Rp.row_at h hx
  have := hc 0 _ rfl
  rw [show intR.slice.sz = 1 from rfl, Nat.mul_one, Nat.add_zero] at this
  exact ⟨b, o, A1, c1, hA, hb, this, hr⟩

theorem addS_succ {ts : List (List Int)} {t : Int} {l : List Int} {k : Nat} {a : Int} (ha : l[k]? = some a) (y : Int) : addS ts t (l.take (k + 1)) y = (addS ts t (l.take k) y || (decide (a = y) && decide (t ∈ ts.getD a.toNat []))) := by
  unfold addS
  rw [List.take_add_one, ha, List.any_append]
  simp
theorem SetM.mono {w : World} {b n n' : Nat} {S : Int → Bool} (h : SetM w b n S) (hn : n ≤ n') : SetM w b n' S := by
  obtain ⟨D, hD, hS⟩ := h
  exact ⟨D, hD.mono hn, hS⟩
theorem SetM.same {w : World} {b n : Nat} {S S' : Int → Bool} (h : SetM w b n S) (hn : ∀ x, S x = S' x) : SetM w b n S' := by
  have e : S = S' := funext hn
  rw [← e]
  exact h

set_option maxRecDepth 100000 in
set_option maxHeartbeats 4000000 in
theorem add_calls {w : World} {N mb bm bt bo ob n : Nat} {ts fs : List (List Int)} {p : Part} {t : Int} {S : Int → Bool} {F : Nat → Prop} {A : Option Addr} {c : Nat} {l : List Int} (hM : Mac w N mb ts fs p) (hNo : N ≤ ob) (hm : w.cell? ⟨bm, 0, none⟩ = some (.pointer (some ⟨mb, 0, none⟩))) (ht : w.cell? ⟨bt, 0, none⟩ = some (.int .i64 t)) (ho : w.cell? ⟨bo, 0, none⟩ = some (.map (some ob)))
    (hlm : bm < w.heap.size) (hltt : bt < w.heap.size) (hlo : bo < w.heap.size) (hne : ∀ k, k = mb ∨ k = bm ∨ k = bt ∨ k = bo → k ≠ ob) (hS : SetM w ob n S) (hr : intR.row w F A l) (hF : ∀ k, F k → k < N) (hrng : ∀ a ∈ l, 0 ≤ a ∧ a < ts.length) (hb : l.length ≤ 1048576 * 1000) (hn : n + l.length ≤ 1048576 * 1048576) (htl : ∀ x ∈ ts, x.length ≤ 1048576) (hts : ts.length ≤ 1048576) :
    Calls Tryz.prog 204 #[.slice A l.length c, .pointer (some ⟨bm, 0, none⟩), .pointer (some ⟨bt, 0, none⟩), .pointer (some ⟨bo, 0, none⟩)] w fun r w' => r = .returned (.tuple #[]) ∧ SetM w' ob (n + l.length) (fun y => S y || addS ts t l y) ∧ Upd (fun k => k = ob) w w' := by
  have HM := As.mk hM
  have HR := As.mk hr
  have HG := As.mk hrng
  have HS := As.mk hS
  have HTL := As.mk htl
  have HNE := As.mk hne
  have HC := As.mk (And.intro hm (And.intro ht ho))
  clear hM hr hrng hS htl hne hm ht ho
  go_enter Tryz.func204, Tryz.ntmps204
  go_wp2
  go_loopg [9] l.length (fun g i wr => ∃ k : Nat, k + g = l.length ∧ i = .int .i64 k ∧ As (SetM wr ob (n + k) (fun y => S y || addS ts t (l.take k) y) ∧ Upd (fun k => k = ob) w wr))
  case atStart => exact ⟨0, by omega, rfl, ⟨by simpa [addS] using HS.out, Upd.refl _ _⟩⟩
  case round =>
    obtain ⟨k, hk, rfl, HP⟩ := hrel
    obtain ⟨hset, hu⟩ := HP.out
    by_cases hlt : k < l.length
    · obtain ⟨x, hx⟩ : ∃ x, l[k]? = some x := ⟨_, List.getElem?_eq_getElem hlt⟩
      obtain ⟨g1, rfl⟩ : ∃ m, gk = m + 1 := ⟨gk - 1, by omega⟩
      obtain ⟨b, o, rfl, hFb, hbb, d0⟩ := int_at (Rp.row_upd HR.out hu (fun q _ hq he => by have := hF q hq; omega)) hx
      obtain ⟨hx0, hx1⟩ := HG.out x (List.mem_of_getElem? hx)
      obtain ⟨a, rfl⟩ : ∃ a : Nat, x = a := ⟨x.toNat, by omega⟩
      obtain ⟨hmN, hNw, At, ct, Ag, cg, Af, cf, Al, cl, hbk, hty, _, _, _⟩ := HM.out.upd hu (fun q hq => by omega)
      obtain ⟨y, hy⟩ : ∃ y, ts[a]? = some y := ⟨_, List.getElem?_eq_getElem (by omega)⟩
      obtain ⟨tb, to1, A1, c1, rfl, htb, d1, hyr⟩ := tyrow_at hty hy
      have hyl := HTL.out y (List.mem_of_getElem? hy)
      have m0 : wr.cell? ⟨mb, 0, none⟩ = some (.slice (some ⟨tb, to1, none⟩) ts.length ct) := by unfold World.cell?; simp only [hbk]; rfl
      obtain ⟨hcm, hct, hco⟩ := HC.out
      have k1 : wr.cell? ⟨bm, 0, none⟩ = some (.pointer (some ⟨mb, 0, none⟩)) := (hu.cell hlm (HNE.out bm (by simp))).trans hcm
      have k2 : wr.cell? ⟨bt, 0, none⟩ = some (.int .i64 t) := (hu.cell hltt (HNE.out bt (by simp))).trans hct
      have k3 : wr.cell? ⟨bo, 0, none⟩ = some (.map (some ob)) := (hu.cell hlo (HNE.out bo (by simp))).trans hco
      have HS1 := As.mk hset
      have HU1 := As.mk hu
      have HYR := As.mk hyr
      have HAS := As.mk (fun z => addS_succ (ts := ts) (t := t) hx z)
      have hgd : ts.getD ((a : Int).toNat) [] = y := by simp [List.getD, hy]
      rw [hgd] at HAS
      have HK := As.mk hk
      have ha1 : (a : Int) < (ts.length : Int) := by omega
      have HQ := As.mk (show wr.drew.cell? ⟨bm, 0, none⟩ = some (.pointer (some ⟨mb, 0, none⟩)) ∧ wr.drew.cell? ⟨mb, 0, none⟩ = some (.slice (some ⟨tb, to1, none⟩) ts.length ct) ∧ wr.drew.cell? ⟨tb, to1 + a, none⟩ = some (.slice A1 y.length c1) ∧ wr.drew.cell? ⟨bt, 0, none⟩ = some (.int .i64 t) from ⟨k1, m0, d1, k2⟩)
      clear hk hx hset hu hyr hty hbk hy k1 k2 m0 hcm hct hco hgd
      cases hq : decide (t ∈ y)
      · rw [hq] at HAS
        go_wp2
        refine wp_region_held_drew (S := (fun v => v.cell? ⟨bm, 0, none⟩ = some (.pointer (some ⟨mb, 0, none⟩)) ∧ v.cell? ⟨mb, 0, none⟩ = some (.slice (some ⟨tb, to1, none⟩) ts.length ct) ∧ v.cell? ⟨tb, to1 + a, none⟩ = some (.slice A1 y.length c1) ∧ v.cell? ⟨bt, 0, none⟩ = some (.int .i64 t))) (by kernel_rfl) ?_ (fun hHeld => ?_)
        · exact HQ.out
        refine takeH 0 (by exact opAt rfl) (by kernel_rfl) (by exact fun _ _ _ h => h) (by rfl) (by intro w hSw; (try dsimp only at hSw); go_simp; try with_reducible rfl) (by assumption) ?_
        (try simp only [Act.put, List.setIfInBounds_toArray, List.set_cons_zero, List.set_cons_succ])
        refine takeH 1 (by exact opAt rfl) (by kernel_rfl) (by exact fun _ _ _ h => h) (by rfl) (by intro w hSw; (try dsimp only at hSw); go_simp; try with_reducible rfl) (by assumption) ?_
        (try simp only [Act.put, List.setIfInBounds_toArray, List.set_cons_zero, List.set_cons_succ])
        refine takeH 2 (by exact opAt rfl) (by kernel_rfl) (by exact fun _ _ _ h => h) (by rfl) (by intro w hSw; (try dsimp only at hSw); go_simp; try with_reducible rfl) (by assumption) ?_
        (try simp only [Act.put, List.setIfInBounds_toArray, List.set_cons_zero, List.set_cons_succ])
        refine takeH 3 (by exact opAt rfl) (by kernel_rfl) (by exact fun _ _ _ h => h) (by rfl) (by intro w hSw; (try dsimp only at hSw); go_simp; try with_reducible rfl) (by assumption) ?_
        (try simp only [Act.put, List.setIfInBounds_toArray, List.set_cons_zero, List.set_cons_succ])
        refine takeH 4 (by exact opAt rfl) (by kernel_rfl) (by exact fun _ _ _ h => h) (by rfl) (by intro w hSw; (try dsimp only at hSw); go_simp; try with_reducible rfl) (by assumption) ?_
        (try simp only [Act.put, List.setIfInBounds_toArray, List.set_cons_zero, List.set_cons_succ])
        refine takeH 5 (by exact opAt rfl) (by kernel_rfl) (by exact fun _ _ _ h => h) (by rfl) (by intro w hSw; (try dsimp only at hSw); go_simp; try with_reducible rfl) (by assumption) ?_
        (try simp only [Act.put, List.setIfInBounds_toArray, List.set_cons_zero, List.set_cons_succ])
        refine takeH 6 (by exact opAt rfl) (by kernel_rfl) (by exact fun _ _ _ h => h) (by rfl) (by intro w hSw; (try dsimp only at hSw); go_simp; try with_reducible rfl) (by assumption) ?_
        (try simp only [Act.put, List.setIfInBounds_toArray, List.set_cons_zero, List.set_cons_succ])
        refine takeH 7 (by exact opAt rfl) (by kernel_rfl) (by exact fun _ _ _ h => h) (by rfl) (by intro w hSw; (try dsimp only at hSw); go_simp; try with_reducible rfl) (by assumption) ?_
        (try simp only [Act.put, List.setIfInBounds_toArray, List.set_cons_zero, List.set_cons_succ])
        refine wpAnyH_ready (rs := [8]) (by kernel_rfl) (by simp) (AllReadyH.cons (o := { dst := (some 21), op := (Go.Op.call { callee := (Go.Callee.value (Go.Operand.func 175)), args := #[(Go.Operand.tmp 19), (Go.Operand.tmp 20)], argTypes := #[86, 3] }), type := 4, pos := "reg.go:133", after := #[{ on := 6, ground := Go.Ground.data }, { on := 7, ground := Go.Ground.data }], guard := none }) rfl (fun K hK => ?_) AllReadyH.nil)
        go_simp
        (go_at_call 175; refine (Contains_calls t (Rp.row_pure HYR.out ((Upd.refl (fun _ => False) wr).drew)) (by omega)).mono ?_; rintro e w1 ⟨rfl, rfl⟩; rw [hq])
        refine hK.out _ _ (by exact HQ.out) (fun hHeld => ?_)
        clear hK K
        (try simp only [Act.put, List.setIfInBounds_toArray, List.set_cons_zero, List.set_cons_succ])
        refine wpAnyH_done (by kernel_rfl) ?_ _
        go_wp2
        go_roundg g1
        case measure => omega
        case rel => exact ⟨k + 1, by have := HK.out; omega, by go_num, ⟨((HS1.out.mono (Nat.le_succ _)).same (fun z => by rw [HAS.out z]; simp)).kept ((Upd.refl (fun _ => False) wr).drew) (fun h => h), HU1.out.drew⟩⟩
      · rw [hq] at HAS
        obtain ⟨D, hD, hSD⟩ := HS1.out
        have HD := As.mk hD
        have HSD := As.mk hSD
        have HWF := As.mk (WalkArith.wf_i64 (n := (a : Int)) (by omega))
        have k3d : wr.drew.cell? ⟨bo, 0, none⟩ = some (.map (some ob)) := k3
        clear hD hSD
        go_wp2
        refine wp_region_held_drew (S := (fun v => v.cell? ⟨bm, 0, none⟩ = some (.pointer (some ⟨mb, 0, none⟩)) ∧ v.cell? ⟨mb, 0, none⟩ = some (.slice (some ⟨tb, to1, none⟩) ts.length ct) ∧ v.cell? ⟨tb, to1 + a, none⟩ = some (.slice A1 y.length c1) ∧ v.cell? ⟨bt, 0, none⟩ = some (.int .i64 t))) (by kernel_rfl) ?_ (fun hHeld => ?_)
        · exact HQ.out
        refine takeH 0 (by exact opAt rfl) (by kernel_rfl) (by exact fun _ _ _ h => h) (by rfl) (by intro w hSw; (try dsimp only at hSw); go_simp; try with_reducible rfl) (by assumption) ?_
        (try simp only [Act.put, List.setIfInBounds_toArray, List.set_cons_zero, List.set_cons_succ])
        refine takeH 1 (by exact opAt rfl) (by kernel_rfl) (by exact fun _ _ _ h => h) (by rfl) (by intro w hSw; (try dsimp only at hSw); go_simp; try with_reducible rfl) (by assumption) ?_
        (try simp only [Act.put, List.setIfInBounds_toArray, List.set_cons_zero, List.set_cons_succ])
        refine takeH 2 (by exact opAt rfl) (by kernel_rfl) (by exact fun _ _ _ h => h) (by rfl) (by intro w hSw; (try dsimp only at hSw); go_simp; try with_reducible rfl) (by assumption) ?_
        (try simp only [Act.put, List.setIfInBounds_toArray, List.set_cons_zero, List.set_cons_succ])
        refine takeH 3 (by exact opAt rfl) (by kernel_rfl) (by exact fun _ _ _ h => h) (by rfl) (by intro w hSw; (try dsimp only at hSw); go_simp; try with_reducible rfl) (by assumption) ?_
        (try simp only [Act.put, List.setIfInBounds_toArray, List.set_cons_zero, List.set_cons_succ])
        refine takeH 4 (by exact opAt rfl) (by kernel_rfl) (by exact fun _ _ _ h => h) (by rfl) (by intro w hSw; (try dsimp only at hSw); go_simp; try with_reducible rfl) (by assumption) ?_
        (try simp only [Act.put, List.setIfInBounds_toArray, List.set_cons_zero, List.set_cons_succ])
        refine takeH 5 (by exact opAt rfl) (by kernel_rfl) (by exact fun _ _ _ h => h) (by rfl) (by intro w hSw; (try dsimp only at hSw); go_simp; try with_reducible rfl) (by assumption) ?_
        (try simp only [Act.put, List.setIfInBounds_toArray, List.set_cons_zero, List.set_cons_succ])
        refine takeH 6 (by exact opAt rfl) (by kernel_rfl) (by exact fun _ _ _ h => h) (by rfl) (by intro w hSw; (try dsimp only at hSw); go_simp; try with_reducible rfl) (by assumption) ?_
        (try simp only [Act.put, List.setIfInBounds_toArray, List.set_cons_zero, List.set_cons_succ])
        refine takeH 7 (by exact opAt rfl) (by kernel_rfl) (by exact fun _ _ _ h => h) (by rfl) (by intro w hSw; (try dsimp only at hSw); go_simp; try with_reducible rfl) (by assumption) ?_
        (try simp only [Act.put, List.setIfInBounds_toArray, List.set_cons_zero, List.set_cons_succ])
        refine wpAnyH_ready (rs := [8]) (by kernel_rfl) (by simp) (AllReadyH.cons (o := { dst := (some 21), op := (Go.Op.call { callee := (Go.Callee.value (Go.Operand.func 175)), args := #[(Go.Operand.tmp 19), (Go.Operand.tmp 20)], argTypes := #[86, 3] }), type := 4, pos := "reg.go:133", after := #[{ on := 6, ground := Go.Ground.data }, { on := 7, ground := Go.Ground.data }], guard := none }) rfl (fun K hK => ?_) AllReadyH.nil)
        go_simp
        (go_at_call 175; refine (Contains_calls t (Rp.row_pure HYR.out ((Upd.refl (fun _ => False) wr).drew)) (by omega)).mono ?_; rintro e w1 ⟨rfl, rfl⟩; rw [hq])
        refine hK.out _ _ (by exact HQ.out) (fun hHeld => ?_)
        clear hK K
        (try simp only [Act.put, List.setIfInBounds_toArray, List.set_cons_zero, List.set_cons_succ])
        refine wpAnyH_done (by kernel_rfl) ?_ _
        go_wp2_with (at_mapUpdate; refine wpList_mapUpdate_own _ rfl _ _ _ 185 rfl 3 4 keyed_int Tryz.underlying185 _ ob (n + k) D rfl HD.out.drew (by unfold maxLen; omega) _ _ _ rfl rfl (Maps.keyOf_int_mk Tryz.underlying3 HWF.out) _ [] (plainElem_bool Tryz.underlying4 true) ?_; intro w1 hown1 hg1)
        go_roundg g1
        case measure => omega
        case rel =>
          refine ⟨k + 1, by have := HK.out; omega, by go_num, ⟨⟨_, hown1, fun z hz => ?_⟩, Upd.trans (HU1.out.drew) (Upd.grown1 (S := fun q => q = ob) hg1 (fun q hq => by injection hq with hq; exact hq.symm)) (fun _ _ h => h)⟩⟩
          rw [has_put (World.ownsMap.isMap HD.out) _ _ _ HWF.out, HSD.out z hz]
          show _ = (S z || addS ts t (List.take (k + 1) l) z)
          rw [HAS.out z]
          have e1 : decide (z = (a : Int)) = decide ((a : Int) = z) := by rw [Bool.eq_iff_iff]; simp [eq_comm]
          rw [e1, Bool.and_true, Bool.or_assoc]
    · have hkl : k = l.length := by omega
      subst hkl
      rw [List.take_length] at hset
      have HS1 := As.mk hset
      have HU1 := As.mk hu
      clear hset hu HP
      go_wp2
      go_end0
      exact ⟨rfl, HS1.out, HU1.out⟩
end Go.Proofs.YtfapglhdakhbeaaGreatDoor
namespace Go.Proofs.YtfapglhdakhbeaaGreatDoor
open Go.RowKit
open Go.Maps (Keyed)
set_option linter.unusedVariables false
set_option linter.unusedSimpArgs false

theorem small_list : ∀ (T : Nat) (l : List Int), l.Pairwise (· ≠ ·) → (∀ x ∈ l, -1 ≤ x ∧ x < T) → l.length ≤ T + 1 := by
  intro T
  induction T with
  | zero =>
    intro l hp hl
    match l, hp, hl with
    | [], _, _ => simp
    | [x], _, _ => simp
    | x :: y :: r, hp, hl =>
      have h1 := hl x (by simp)
      have h2 := hl y (by simp)
      have h3 := (List.pairwise_cons.1 hp).1 y (by simp)
      omega
  | succ T ih =>
    intro l hp hl
    have h1 := ih (l.filter (fun x => decide (x ≠ (T : Int)))) (hp.filter _) (fun x hx => by
      obtain ⟨ha, hb⟩ := List.mem_filter.1 hx
      have := hl x ha
      simp at hb
      omega)
    have h2 : l.length ≤ (l.filter (fun x => decide (x ≠ (T : Int)))).length + 1 := by
      clear ih h1 hl
      induction l with
      | nil => simp
      | cons x r ih =>
        obtain ⟨h3, h4⟩ := List.pairwise_cons.1 hp
        by_cases hx : x = (T : Int)
        · have : r.filter (fun x => decide (x ≠ (T : Int))) = r := List.filter_eq_self.2 (fun y hy => by have := h3 y hy; simp; omega)
          rw [List.filter_cons_of_neg (by simp [hx]), this]
          simp
        · rw [List.filter_cons_of_pos (by simp [hx])]
          have := ih h4
          simp only [List.length_cons]
          omega
    omega

open Go.WideElems (Fit rd rg pl rd_val rd_key rg_of) in
/-- A set of places has at most so many. -/
theorem SetM.small {w : World} {b n : Nat} {S : Int → Bool} (h : SetM w b n S) (T : Nat) (hT : ∀ x, (Lit.int .i64 x).wf = true → S x = true → -1 ≤ x ∧ x < T) : SetM w b (T + 1) S := by
  obtain ⟨D, hD, hS⟩ := h
  obtain ⟨es', hes, hpw, _⟩ := hD.entries keyed_int
  obtain ⟨es, clock, hb, F, hn, hDe⟩ := hD
  rw [hDe] at hes
  injection hes with hes
  have hk : ∀ p ∈ es', ∃ x, p.1 = .int .i64 x ∧ (Lit.int .i64 x).wf = true := by
    intro p hp
    rw [← hes] at hp
    obtain ⟨x, hx, rfl⟩ := List.mem_map.1 (mem_sorted.1 hp)
    obtain ⟨y, hy⟩ := F.reads x hx
    rw [rg_of hy]
    obtain ⟨z, _, hz, hw⟩ := Maps.keyOf_int_inv Tryz.underlying3 (rd_key hy)
    exact ⟨z, hz, hw⟩
  have hlen : es'.length = es.size := by rw [← hes, length_sorted]; simp
  let f : Lit × DataW Unit → Int := fun p => match p.1 with | .int _ x => x | _ => 0
  have hf : ∀ p ∈ es', p.1 = .int .i64 (f p) := by
    intro p hp
    obtain ⟨x, hx, _⟩ := hk p hp
    simp [f, hx]
  have hs := small_list T (es'.map f) (by
    rw [List.pairwise_map]
    exact hpw.imp_of_mem (fun {p q} hp hq hne he => hne (by rw [hf p hp, hf q hq, he]))) (fun x hx => by
    obtain ⟨p, hp, rfl⟩ := List.mem_map.1 hx
    obtain ⟨x, hx', hw⟩ := hk p hp
    have e : f p = x := by simp [f, hx']
    rw [e]
    refine hT x hw ?_
    rw [← hS x hw, hDe, hes, Maps.has_eq, List.any_eq_true]
    exact ⟨p, hp, by rw [hx']; simp [Lit.sameKey]⟩)
  rw [List.length_map] at hs
  exact ⟨D, ⟨es, clock, hb, F, by omega, hDe⟩, hS⟩
end Go.Proofs.YtfapglhdakhbeaaGreatDoor
namespace Go.Proofs.YtfapglhdakhbeaaGreatDoor
open Go.RowKit
open Go.Maps (Keyed)
set_option linter.unusedVariables false
set_option linter.unusedSimpArgs false

/-- Who may come behind a place; -1: the beginning. -/
def nextsOf (fs : List (List Int)) (p : Part) (x : Int) : List Int := if x = -1 then p.first else fs.getD x.toNat []
/-- The set behind a type. -/
def stepS (ts fs : List (List Int)) (p : Part) (S : Int → Bool) (t : Int) (y : Int) : Bool :=
  (List.range (ts.length + 1)).any (fun i => S ((i : Int) - 1) && addS ts t (nextsOf fs p ((i : Int) - 1)) y)

theorem Upd.grownBy {w w1 : World} {q : Nat} (h : Upd (fun k => k = q) w w1) : w.grownBy w1 (some q) :=
  ⟨h.os, h.tape, h.output, h.size, fun k hk hne => h.block k hk (fun e => hne (by rw [e]))⟩
theorem addS_in {ts : List (List Int)} {t : Int} {l : List Int} {y : Int} (h : addS ts t l y = true) : y ∈ l := by
  unfold addS at h
  obtain ⟨a, ha, hb⟩ := List.any_eq_true.1 h
  simp at hb
  rw [← hb.1]; exact ha
/-- The set while the loop goes: what is left is not counted. -/
def leftS (ts fs : List (List Int)) (p : Part) (S : Int → Bool) (left : Lit → Bool) (t y : Int) : Bool :=
  (List.range (ts.length + 1)).any (fun i => (S ((i : Int) - 1) && !left (.int .i64 ((i : Int) - 1))) && addS ts t (nextsOf fs p ((i : Int) - 1)) y)
theorem leftS_next {ts fs : List (List Int)} {p : Part} {S : Int → Bool} {left : Lit → Bool} {t x : Int} (h0 : -1 ≤ x) (h1 : x < ts.length) (hS : S x = true) (y : Int) :
    (leftS ts fs p S left t y || addS ts t (nextsOf fs p x) y) = leftS ts fs p S (fun z => left z && !z.sameKey (.int .i64 x)) t y := by
  unfold leftS
  rw [Bool.eq_iff_iff, Bool.or_eq_true, List.any_eq_true, List.any_eq_true]
  constructor
  · rintro (⟨i, hi, h⟩ | h)
    · refine ⟨i, hi, ?_⟩
      simp only [Bool.and_eq_true, Bool.not_eq_true', Bool.and_eq_false_iff] at h ⊢
      exact ⟨⟨h.1.1, .inl h.1.2⟩, h.2⟩
    · refine ⟨(x + 1).toNat, List.mem_range.2 (by omega), ?_⟩
      have e : (((x + 1).toNat : Nat) : Int) - 1 = x := by omega
      rw [e, hS, h]
      simp [Lit.sameKey]
  · rintro ⟨i, hi, h⟩
    simp only [Bool.and_eq_true, Bool.not_eq_true', Bool.and_eq_false_iff] at h
    rcases h.1.2 with h2 | h2
    · left
      refine ⟨i, hi, ?_⟩
      simp only [Bool.and_eq_true, Bool.not_eq_true']
      exact ⟨⟨h.1.1, h2⟩, h.2⟩
    · right
      have e : (i : Int) - 1 = x := by simpa [Lit.sameKey] using h2
      rw [← e]
      exact h.2
theorem leftS_rng {ts fs : List (List Int)} {p : Part} {S : Int → Bool} {left : Lit → Bool} {t : Int} (hok : ∀ x, ∀ a ∈ nextsOf fs p x, 0 ≤ a ∧ a < ts.length) (y : Int) (h : leftS ts fs p S left t y = true) : -1 ≤ y ∧ y < ts.length := by
  unfold leftS at h
  obtain ⟨i, _, h⟩ := List.any_eq_true.1 h
  simp only [Bool.and_eq_true] at h
  have := hok _ y (addS_in h.2)
  omega
theorem stepS_rng {ts fs : List (List Int)} {p : Part} {S : Int → Bool} {t : Int} (hok : ∀ x, ∀ a ∈ nextsOf fs p x, 0 ≤ a ∧ a < ts.length) (y : Int) (h : stepS ts fs p S t y = true) : 0 ≤ y ∧ y < ts.length := by
  unfold stepS at h
  obtain ⟨i, _, h⟩ := List.any_eq_true.1 h
  simp only [Bool.and_eq_true] at h
  exact hok _ y (addS_in h.2)

/-- What holds at each round's head. -/
structure StepR (w : World) (N mb sb n : Nat) (D : DataW Unit) (ts fs : List (List Int)) (p : Part) (S : Int → Bool) (t : Int) (left : Lit → Bool) (g : Nat) (wr : World) : Prop where
  rg : wr.ranges Tryz.prog 3 (plainElem Tryz.prog 4) sb (w.heap.size + 4) n D left g
  set : SetM wr (w.heap.size + 2) (ts.length + 1) (leftS ts fs p S left t)
  pure : Pure w wr
  sz : w.heap.size + 5 ≤ wr.heap.size
  c0 : wr.cell? ⟨w.heap.size, 0, none⟩ = some (.pointer (some ⟨mb, 0, none⟩))
  c1 : wr.cell? ⟨w.heap.size + 1, 0, none⟩ = some (.int .i64 t)
  c3 : wr.cell? ⟨w.heap.size + 3, 0, none⟩ = some (.map (some (w.heap.size + 2)))
theorem StepR.next {w wr w2 w3 : World} {N mb sb n g g2 : Nat} {D : DataW Unit} {ts fs : List (List Int)} {p : Part} {S : Int → Bool} {t x : Int} {left : Lit → Bool} (h : StepR w N mb sb n D ts fs p S t left g wr)
    (hsb : sb < w.heap.size) (hok : ∀ x, ∀ a ∈ nextsOf fs p x, 0 ≤ a ∧ a < ts.length) (h0 : -1 ≤ x) (h1 : x < ts.length) (hS : S x = true) (hr : w2.ranges Tryz.prog 3 (plainElem Tryz.prog 4) sb (w.heap.size + 4) n D (fun z => left z && !z.sameKey (.int .i64 x)) g2) (hu2 : Upd (fun k => k = w.heap.size + 4) wr w2)
    (m : Nat) (hs : SetM w3 (w.heap.size + 2) m (fun y => leftS ts fs p S left t y || addS ts t (nextsOf fs p x) y)) (hu3 : Upd (fun k => k = w.heap.size + 2) w2 w3) :
    StepR w N mb sb n D ts fs p S t (fun z => left z && !z.sameKey (.int .i64 x)) g2 w3 where
  rg := hr.kept hu3.grownBy (by simp; omega) (by simp)
  set := (hs.same (fun y => leftS_next h0 h1 hS y)).small ts.length (fun y _ hy => leftS_rng hok y hy)
  pure := (h.pure.trans hu2 (fun k hk e => by omega)).trans hu3 (fun k hk e => by omega)
  sz := Nat.le_trans h.sz (Nat.le_trans hu2.size hu3.size)
  c0 := by rw [hu3.cell (by have := h.sz; have := hu2.size; omega) (by omega), hu2.cell (by have := h.sz; omega) (by omega)]; exact h.c0
  c1 := by rw [hu3.cell (by have := h.sz; have := hu2.size; omega) (by omega), hu2.cell (by have := h.sz; omega) (by omega)]; exact h.c1
  c3 := by rw [hu3.cell (by have := h.sz; have := hu2.size; omega) (by omega), hu2.cell (by have := h.sz; omega) (by omega)]; exact h.c3

set_option maxRecDepth 100000 in
set_option maxHeartbeats 4000000 in
theorem step_calls {w : World} {N mb sb n : Nat} {ts fs : List (List Int)} {p : Part} {t : Int} {S : Int → Bool} (hM : Mac w N mb ts fs p) (hS : SetM w sb n S) (hts : ts.length ≤ 1000) (htl : ∀ x ∈ ts, x.length ≤ 1048576) (hfl : fs.length = ts.length)
    (hrg : ∀ x, (Lit.int .i64 x).wf = true → S x = true → -1 ≤ x ∧ x < ts.length) (hok : ∀ x, ∀ a ∈ nextsOf fs p x, 0 ≤ a ∧ a < ts.length) (hlen : ∀ x, (nextsOf fs p x).length ≤ 1048576 * 1000) :
    Calls Tryz.prog 174 #[.pointer (some ⟨mb, 0, none⟩), .map (some sb), .int .i64 t] w fun r w' => ∃ ob, r = .returned (.map (some ob)) ∧ SetM w' ob (ts.length + 1) (stepS ts fs p S t) ∧ Pure w w' := by
  have hsb := hS.lt
  obtain ⟨D, hD, hSD⟩ := hS
  have HD := As.mk hD
  have HSD := As.mk hSD
  have HM0 := As.mk hM
  have HOK := As.mk hok
  have HLN := As.mk hlen
  have HTL := As.mk htl
  have HRG0 := As.mk hrg
  have hmN := hM.1
  have hNw := hM.2.1
  clear hD hSD hM hok hlen htl hrg
  have hmm := @run_makeMap Tryz.prog
  go_enter Tryz.func174, Tryz.ntmps174
  go_wp2_with (at_range; refine wpList_range_own _ rfl _ 185 rfl 3 4 keyed_int Tryz.underlying185 _ sb n D rfl (((HD.out.alloc _).alloc _).alloc _ |>.alloc _) ?_; intro w0 hrg0 hg0 hs0; apply As.out)
  refine ⟨?_⟩
  go_wp2
  have hb4 : ((((w.alloc (.cells #[.pointer (some ⟨mb, 0, none⟩)] 182)).alloc (.cells #[.int .i64 t] 3)).alloc (.map #[] 0)).alloc (.cells #[.map (some (w.heap.size + 1 + 1))] 185)).heap.size = w.heap.size + 4 := by simp
  go_loopg [9] (Maps.size D) (fun g kv wr => ∃ left, As (StepR w N mb sb n D ts fs p S t left g wr))
  case atStart =>
    have hp4 : Pure ((((w.alloc (.cells #[.pointer (some ⟨mb, 0, none⟩)] 182)).alloc (.cells #[.int .i64 t] 3)).alloc (.map #[] 0)).alloc (.cells #[.map (some (w.heap.size + 1 + 1))] 185)) w0 := Upd.grown1 hg0 (fun k hk => by cases hk)
    have hw4 : Pure w ((((w.alloc (.cells #[.pointer (some ⟨mb, 0, none⟩)] 182)).alloc (.cells #[.int .i64 t] 3)).alloc (.map #[] 0)).alloc (.cells #[.map (some (w.heap.size + 1 + 1))] 185)) := (((Upd.alloc1 _ _ _).alloc _).alloc _).alloc _
    have hmade := SetM.made ((w.alloc (.cells #[.pointer (some ⟨mb, 0, none⟩)] 182)).alloc (.cells #[.int .i64 t] 3))
    have e2 : ((w.alloc (.cells #[.pointer (some ⟨mb, 0, none⟩)] 182)).alloc (.cells #[.int .i64 t] 3)).heap.size = w.heap.size + 2 := by simp
    rw [e2] at hmade
    refine ⟨Maps.has D, ⟨⟨by rw [← hb4]; exact hrg0, ?_, hw4.trans hp4 (fun _ _ h => h), by rw [hs0, hb4]; omega, ?_, ?_, ?_⟩⟩⟩
    · refine ((hmade.kept (R := fun _ => False) ((Upd.alloc1 _ _ _).trans hp4 (fun _ _ h => h)) (fun h => h))).mono (Nat.zero_le _) |>.same (fun y => ?_)
      unfold leftS
      rw [eq_comm, List.any_eq_false]
      intro i hi
      have hlt := List.mem_range.1 hi
      rw [HSD.out _ (WalkArith.wf_i64 (by omega))]
      simp
    · refine (hp4.cell (by simp; try omega) (fun h => h)).trans ?_
      have hh := (Below.heap_alloc (((w.alloc (.cells #[.pointer (some ⟨mb, 0, none⟩)] 182)).alloc (.cells #[.int .i64 t] 3)).alloc (.map #[] 0)) (.cells #[.map (some (w.heap.size + 1 + 1))] 185) w.heap.size (by simp; try omega)).trans ((Below.heap_alloc _ _ _ (by simp; try omega)).trans ((Below.heap_alloc _ _ _ (by simp)).trans (heap_alloc_new w _)))
      unfold World.cell?; simp only [hh]; rfl
    · refine (hp4.cell (by simp; try omega) (fun h => h)).trans ?_
      have hh := (Below.heap_alloc (((w.alloc (.cells #[.pointer (some ⟨mb, 0, none⟩)] 182)).alloc (.cells #[.int .i64 t] 3)).alloc (.map #[] 0)) (.cells #[.map (some (w.heap.size + 1 + 1))] 185) (w.heap.size + 1) (by simp; try omega)).trans ((Below.heap_alloc _ _ _ (by simp)).trans (heap_alloc2_new w _ _))
      unfold World.cell?; simp only [hh]; rfl
    · refine (hp4.cell (by simp; try omega) (fun h => h)).trans ?_
      have hh := heap_alloc_new (((w.alloc (.cells #[.pointer (some ⟨mb, 0, none⟩)] 182)).alloc (.cells #[.int .i64 t] 3)).alloc (.map #[] 0)) (.cells #[.map (some (w.heap.size + 1 + 1))] 185)
      rw [show (((w.alloc (.cells #[.pointer (some ⟨mb, 0, none⟩)] 182)).alloc (.cells #[.int .i64 t] 3)).alloc (.map #[] 0)).heap.size = w.heap.size + 3 by simp] at hh
      unfold World.cell?; simp only [hh]; rfl
  case round =>
    obtain ⟨left, HR⟩ := hrel
    have invV : ∀ (v : Value) (y : DataW Unit × List MemPlace), plainElem Tryz.prog 4 v = some y → ∃ c : Bool, v = .bool c := by
      intro v y hv
      cases v <;> simp [plainElem, Tryz.underlying4] at hv
      exact ⟨_, rfl⟩
    go_wp2_with (at_next; refine wpList_next_ranges _ rfl _ rfl 3 keyed_int (plainElem Tryz.prog 4) (fun x : Int => Value.int .i64 x) (fun c : Bool => Value.bool c) (fun key kl hk => by obtain ⟨x, rfl, _⟩ := Maps.keyOf_int_inv Tryz.underlying3 hk; exact ⟨x, rfl⟩) invV sb (w.heap.size + 4) n D left gk rfl HR.out.rg (fun h0 hl => As.out ?_) (fun x c kl y w2 cnt2 hkey hlk hv hat hrg2 hlt hgr hsz hen => As.out ?_))
    · refine ⟨?_⟩
      have HLF := As.mk hl
      have c3 := HR.out.c3
      clear hl
      go_wp2
      go_ret
      refine ⟨w.heap.size + 2, rfl, HR.out.set.same (fun y => by simp [stepS, leftS, HLF.out]), HR.out.pure⟩
    · refine ⟨?_⟩
      obtain ⟨x', ex, rfl, hwx⟩ := Maps.keyOf_int_inv Tryz.underlying3 hkey
      cases ex
      have hSx : S x = true := by rw [← HSD.out x hwx]; exact Maps.has_true_of_atKey hat
      obtain ⟨hx0, hx1⟩ := HRG0.out x hwx hSx
      have hu2 : Upd (fun k => k = w.heap.size + 4) wr w2 := Upd.grown1 hgr (fun k hk => by injection hk with hk; exact hk.symm)
      have hM2 : Mac w2 N mb ts fs p := ((HM0.out.pure HR.out.pure).upd hu2 (fun k hk => by omega))
      have c0 : w2.cell? ⟨w.heap.size, 0, none⟩ = some (.pointer (some ⟨mb, 0, none⟩)) := (hu2.cell (by have := HR.out.sz; omega) (by omega)).trans HR.out.c0
      have c1 : w2.cell? ⟨w.heap.size + 1, 0, none⟩ = some (.int .i64 t) := (hu2.cell (by have := HR.out.sz; omega) (by omega)).trans HR.out.c1
      have c3 : w2.cell? ⟨w.heap.size + 3, 0, none⟩ = some (.map (some (w.heap.size + 2))) := (hu2.cell (by have := HR.out.sz; omega) (by omega)).trans HR.out.c3
      have hset2 : SetM w2 (w.heap.size + 2) (ts.length + 1) (leftS ts fs p S left t) := HR.out.set.kept hu2 (by omega)
      have hsz2 : w.heap.size + 5 ≤ w2.heap.size := Nat.le_trans HR.out.sz hu2.size
      have hlx := HLN.out x
      have HSX := As.mk hSx
      have HRG2 := As.mk hrg2
      have HU2 := As.mk hu2
      have HEN := As.mk hen
      have hADD := fun (A : Option Addr) (cc : Nat) (hrow : intR.row w2 (fun k => k < N) A (nextsOf fs p x)) => add_calls (c := cc) hM2 (by omega : N ≤ w.heap.size + 2) c0 c1 c3 (by omega) (by omega) (by omega) (by omega) hset2 hrow (fun _ h => h) (HOK.out x) hlx (by omega) HTL.out (by omega)
      have HADD := As.mk hADD
      obtain ⟨_, _, At, ct, Ag, cg, Af, cf, Al, cl, hbk, hty, hfo, hfi, hla⟩ := hM2
      clear hkey hlk hv hat hrg2 hgr hsz hu2 hset2 hADD hSx
      by_cases hx : x = -1
      · subst hx
        have hnx : nextsOf fs p (-1) = p.first := rfl
        have m3 : w2.cell? ⟨mb, 3, none⟩ = some (.slice Af p.first.length cf) := by unfold World.cell?; simp only [hbk]; rfl
        have HA2 := As.mk (HADD.out Af cf (by rw [hnx]; exact hfi))
        rw [hnx] at HA2
        clear HADD hbk hty hfo hfi hla
        go_wp2_with (go_at_call 204; refine HA2.out.mono ?_; rintro e w3 ⟨rfl, hs3, hu3⟩)
        go_roundg cnt2
        case measure => omega
        case rel => exact ⟨_, ⟨HR.out.next hsb HOK.out hx0 hx1 HSX.out HRG2.out HU2.out _ hs3 hu3⟩⟩
      · obtain ⟨a, rfl⟩ : ∃ a : Nat, x = a := ⟨x.toNat, by omega⟩
        obtain ⟨y, hy⟩ : ∃ y, fs[a]? = some y := ⟨_, List.getElem?_eq_getElem (by omega)⟩
        have hnx : nextsOf fs p (a : Int) = y := by
          unfold nextsOf
          rw [if_neg hx]
          simp [List.getD, hy]
        have hne : ((a : Int) == -1) = false := by simp
        have ha1 : (a : Int) < (fs.length : Int) := by omega
        have m1 : w2.cell? ⟨mb, 1, none⟩ = some (.slice Ag fs.length cg) := by unfold World.cell?; simp only [hbk]; rfl
        obtain ⟨tb, to1, A1, c1', rfl, htb, d1, hyr⟩ := tyrow_at hfo hy
        have HA2 := As.mk (HADD.out A1 c1' (by rw [hnx]; exact hyr))
        have HNX := As.mk hnx
        rw [hnx] at HA2
        clear HADD hbk hty hfo hfi hla hx hy hyr hnx
        go_wp2_with (go_at_call 204; refine HA2.out.mono ?_; rintro e w3 ⟨rfl, hs3, hu3⟩)
        go_roundg cnt2
        case measure => omega
        case rel => exact ⟨_, ⟨HR.out.next hsb HOK.out hx0 hx1 HSX.out HRG2.out HU2.out _ (by rw [HNX.out]; exact hs3) hu3⟩⟩
end Go.Proofs.YtfapglhdakhbeaaGreatDoor
namespace Go.Proofs.YtfapglhdakhbeaaGreatDoor
open Go.RowKit
open Go.Maps (Keyed)
set_option linter.unusedVariables false
set_option linter.unusedSimpArgs false

/-- A machine that may be run. -/
structure MOk (ts fs : List (List Int)) (p : Part) : Prop where
  lt : ts.length ≤ 1000
  tl : ∀ x ∈ ts, x.length ≤ 1048576
  fl : fs.length = ts.length
  ok : ∀ x, ∀ a ∈ nextsOf fs p x, 0 ≤ a ∧ a < ts.length
  len : ∀ x, (nextsOf fs p x).length ≤ 1048576 * 1000
  last : ∀ a ∈ p.last, 0 ≤ a ∧ a < ts.length
  ll : p.last.length ≤ 1048576

/-- Only the beginning and places. -/
def InS (T : Nat) (S : Int → Bool) : Prop := ∀ x, S x = true → -1 ≤ x ∧ x < T
def emptyS (T : Nat) (S : Int → Bool) : Bool := !((List.range (T + 1)).any (fun i => S ((i : Int) - 1)))
def startS (x : Int) : Bool := decide (x = -1)
/-- The set behind a word's longest beginning, and how long that is. -/
def runS (ts fs : List (List Int)) (p : Part) : (Int → Bool) → List Int → (Int → Bool) × Nat
  | S, [] => (S, 0)
  | S, t :: r => if emptyS ts.length (stepS ts fs p S t) then (S, 0) else ((runS ts fs p (stepS ts fs p S t) r).1, (runS ts fs p (stepS ts fs p S t) r).2 + 1)
def endsS (p : Part) (S : Int → Bool) : Bool := (S (-1) && p.none) || p.last.any S

theorem startS_in (T : Nat) : InS T startS := fun x h => by simp [startS] at h; omega
theorem stepS_in {ts fs : List (List Int)} {p : Part} (hM : MOk ts fs p) (S : Int → Bool) (t : Int) : InS ts.length (stepS ts fs p S t) := fun y h => by have := stepS_rng hM.ok y h; omega
theorem runS_in {ts fs : List (List Int)} {p : Part} (hM : MOk ts fs p) : ∀ (word : List Int) (S : Int → Bool), InS ts.length S → InS ts.length (runS ts fs p S word).1 := by
  intro word
  induction word with
  | nil => intro S h; exact h
  | cons t r ih =>
    intro S h
    unfold runS
    split
    · exact h
    · exact ih _ (stepS_in hM S t)

open Go.WideElems (Fit rd rg pl rd_val rd_key rg_of) in
/-- Is a set empty? -/
theorem SetM.empty {w : World} {b n : Nat} {S : Int → Bool} (h : SetM w b n S) (T : Nat) (hT : InS T S) (hT2 : T ≤ 1000) :
    ∃ D : DataW Unit, w.ownsMap Tryz.prog 3 (plainElem Tryz.prog 4) b n D ∧ decide (Maps.size D = 0) = emptyS T S := by
  obtain ⟨D, hD, hS⟩ := h
  refine ⟨D, hD, ?_⟩
  obtain ⟨es', hes, hpw, _⟩ := hD.entries keyed_int
  obtain ⟨es, clock, hb, F, hn, hDe⟩ := hD
  rw [hDe] at hes
  injection hes with hes
  have hk : ∀ p ∈ es', ∃ x, p.1 = .int .i64 x ∧ (Lit.int .i64 x).wf = true := by
    intro p hp
    rw [← hes] at hp
    obtain ⟨x, hx, rfl⟩ := List.mem_map.1 (mem_sorted.1 hp)
    obtain ⟨y, hy⟩ := F.reads x hx
    rw [rg_of hy]
    obtain ⟨z, _, hz, hw⟩ := Maps.keyOf_int_inv Tryz.underlying3 (rd_key hy)
    exact ⟨z, hz, hw⟩
  have hD' : D = .map es' := by rw [hDe, hes]
  rw [Bool.eq_iff_iff, decide_eq_true_eq, hD', Maps.size_eq]
  unfold emptyS
  rw [Bool.not_eq_true', List.any_eq_false]
  constructor
  · intro h0 i hi
    have : es' = [] := List.eq_nil_of_length_eq_zero h0
    subst this
    intro hc
    have hr := hT _ hc
    have hw : (Lit.int .i64 ((i : Int) - 1)).wf = true := WalkArith.wf_i64 (by omega)
    have := hS _ hw
    rw [hD', hc] at this
    simp [Maps.has_eq] at this
  · intro h0
    match es', hk, hD' with
    | [], _, _ => rfl
    | q :: r, hk, hD' =>
      obtain ⟨x, hx, hw⟩ := hk q (by simp)
      have hh : S x = true := by
        rw [← hS x hw, hD', Maps.has_eq, List.any_cons, hx]
        simp [Lit.sameKey]
      have hr := hT x hh
      exact absurd hh (by
        have := h0 (x + 1).toNat (List.mem_range.2 (by omega))
        have e : (((x + 1).toNat : Nat) : Int) - 1 = x := by omega
        rw [e] at this
        exact this)

/-- The element of a map's literal. -/
theorem wpList_insert_own {H : Type} {P : Program} (w : World) {ops : Array Oper} {rest : List Oper} {o : Oper} {a : Act} {Q : Exit → Act → World → Prop}
    (hg : o.guard = none) (m x v : Operand) (t : TypeId) (hop : o.op = Op.insert t m x v)
    (k e : TypeId) (K : Keyed P k) (ht : P.underlying t = some (.map k e)) (R : Value → Option (DataW H × List MemPlace)) (b n : Nat) (D : DataW H)
    (hm : a.eval m = .map (some b)) (hown : w.ownsMap P k R b n D) (hn : n < maxLen) (key val : Value) (kl : Lit) (hx : a.eval x = key) (hv : a.eval v = val) (hkey : keyOf P k key = some kl)
    (d : DataW H) (ps : List MemPlace) (hval : R val = some (d, ps))
    (hK : ∀ w', w'.ownsMap P k R b (n + 1) (D.put kl d) → w.grownBy w' (some b) → wpList P ops Q rest (a.put o.dst undef) w') :
    wpList P ops Q (o :: rest) a w := by
  refine wpList_plain hg fun K' hK' => ?_
  obtain ⟨w', hrun, r1, r2⟩ := hown.update K ht hn hkey hval
  unfold Oper.wp
  simp [execOp, hop, hm, hx, hv, hrun, Result.andThen]
  exact hK' _ _ (hK w' r1 r2)

theorem runS_nil (ts fs : List (List Int)) (p : Part) (S : Int → Bool) : runS ts fs p S [] = (S, 0) := rfl

set_option maxRecDepth 100000 in
set_option maxHeartbeats 4000000 in
theorem run_calls {w : World} {N mb : Nat} {ts fs : List (List Int)} {p : Part} {word : List Int} {F : Nat → Prop} {A : Option Addr} {c : Nat} (hM : Mac w N mb ts fs p) (hO : MOk ts fs p) (hr : intR.row w F A word) (hb : word.length ≤ 1048576 * 4) :
    Calls Tryz.prog 136 #[.pointer (some ⟨mb, 0, none⟩), .slice A word.length c] w fun r w' => ∃ sb, r = .returned (.tuple #[.map (some sb), .int .i64 ((runS ts fs p startS word).2 : Nat)]) ∧ SetM w' sb (ts.length + 1) (runS ts fs p startS word).1 ∧ Pure w w' := by
  have HM := As.mk hM
  have HO := As.mk hO
  have HR := As.mk hr
  have hlt0 := hO.lt
  clear hM hO hr
  have hmm := @run_makeMap Tryz.prog
  have hmade := World.ownsMap_made (H := Unit) w Tryz.prog 3 (plainElem Tryz.prog 4)
  have HMADE := As.mk hmade
  have HWF := As.mk (WalkArith.wf_i64 (n := (-1 : Int)) (by omega))
  clear hmade
  go_enter Tryz.func136, Tryz.ntmps136
  go_wp2_with (refine wpList_insert_own _ rfl _ _ _ 185 rfl 3 4 keyed_int Tryz.underlying185 _ w.heap.size 0 _ rfl HMADE.out (by unfold maxLen; omega) _ _ _ rfl rfl (Maps.keyOf_int_mk Tryz.underlying3 HWF.out) _ [] (plainElem_bool Tryz.underlying4 true) (fun w1 hown1 hg1 => As.out ?_))
  refine ⟨?_⟩
  have hset1 : SetM w1 w.heap.size (ts.length + 1) startS := by
    refine SetM.mono (n := 0 + 1) ⟨_, hown1, fun z hz => ?_⟩ (by omega)
    rw [has_put (World.ownsMap.isMap HMADE.out) _ _ _ HWF.out]
    simp [Maps.has_eq, startS]
  have hu1 : Pure w w1 := (Upd.alloc1 (fun _ => False) w (.map #[] 0)).trans (Upd.grown1 (S := fun q => q = w.heap.size) hg1 (fun q hq => by injection hq with hq; exact hq.symm)) (fun q hq h => by omega)
  have HI := As.mk (And.intro hset1 hu1)
  clear hset1 hu1 hown1 hg1
  go_wp2
  go_loopg [6, 14] word.length (fun g s i wr => ∃ (k sb : Nat) (S : Int → Bool), k + g = word.length ∧ i = .int .i64 k ∧ s = .map (some sb) ∧ As (SetM wr sb (ts.length + 1) S ∧ Pure w wr ∧ InS ts.length S ∧ runS ts fs p startS word = ((runS ts fs p S (word.drop k)).1, (runS ts fs p S (word.drop k)).2 + k)))
  case atStart => exact ⟨0, w.heap.size, startS, by omega, rfl, rfl, ⟨HI.out.1, HI.out.2, startS_in _, rfl⟩⟩
  case round =>
    obtain ⟨k, sb, S, hk, rfl, rfl, HP⟩ := hrel
    by_cases hlt : k < word.length
    · obtain ⟨x, hx⟩ : ∃ x, word[k]? = some x := ⟨_, List.getElem?_eq_getElem hlt⟩
      obtain ⟨g1, rfl⟩ : ∃ m, gk = m + 1 := ⟨gk - 1, by omega⟩
      obtain ⟨b, o, rfl, hFb, hbb, d0⟩ := int_at (Rp.row_pure HR.out HP.out.2.1) hx
      have HK := As.mk hk
      have HD := As.mk (int_drop hx)
      have HC := As.mk (step_calls (t := x) (HM.out.pure HP.out.2.1) HP.out.1 hlt0 HO.out.tl HO.out.fl (fun y _ hy => HP.out.2.2.1 y hy) HO.out.ok HO.out.len)
      clear hk hx
      go_wp2_with (go_at_call 174; refine HC.out.mono ?_; rintro e w2 ⟨ob, rfl, hs2, hu2⟩; apply As.out)
      refine ⟨?_⟩
      obtain ⟨D, hD, hemp⟩ := hs2.empty ts.length (stepS_in HO.out S x) hlt0
      have HS2 := As.mk (And.intro hs2 hu2)
      have HDD := As.mk hD
      clear hs2 hu2 hD
      cases hq : emptyS ts.length (stepS ts fs p S x)
      · have hsz : ((Maps.size D : Int) == 0) = false := by
          rw [hq] at hemp
          simpa using hemp
        have HQ := As.mk hq
        clear hemp hq
        go_wp2_with (at_len; refine wpList_len_own _ rfl _ 185 rfl 3 4 Tryz.underlying185 _ ob (ts.length + 1) D rfl HDD.out ?_)
        go_roundg g1
        case measure => omega
        case rel =>
          refine ⟨k + 1, ob, _, by have := HK.out; omega, by go_num, rfl, ⟨HS2.out.1, HP.out.2.1.trans HS2.out.2 (fun _ _ h => h), stepS_in HO.out S x, ?_⟩⟩
          rw [HP.out.2.2.2, HD.out, runS, if_neg (by rw [HQ.out]; simp)]
          simp only [Prod.mk.injEq, true_and]
          omega
      · have hsz : ((Maps.size D : Int) == 0) = true := by
          rw [hq] at hemp
          simpa using hemp
        have HQ := As.mk hq
        clear hemp hq
        go_wp2_with (at_len; refine wpList_len_own _ rfl _ 185 rfl 3 4 Tryz.underlying185 _ ob (ts.length + 1) D rfl HDD.out ?_)
        have e1 : runS ts fs p startS word = (S, k) := by
          rw [HP.out.2.2.2, HD.out, runS, if_pos HQ.out]
          simp
        go_ret2
        refine ⟨sb, ?_, ?_, HP.out.2.1.trans HS2.out.2 (fun _ _ h => h)⟩
        · rw [e1]; rfl
        · rw [e1]
          exact HP.out.1.kept HS2.out.2 (fun h => h)
    · obtain rfl : k = word.length := by omega
      have e1 : runS ts fs p startS word = (S, word.length) := by
        rw [HP.out.2.2.2, List.drop_length, runS]
        simp
      have HE := As.mk e1
      clear e1
      go_wp2
      go_ret2
      refine ⟨sb, ?_, ?_, HP.out.2.1⟩
      · rw [HE.out]; rfl
      · rw [HE.out]
        exact HP.out.1

/-- What ends a word at a place. -/
def endS (p : Part) (x : Int) : Bool := (decide (x = -1) && p.none) || (decide (x ≠ -1) && decide (x ∈ p.last))
theorem endsS_true {p : Part} {S : Int → Bool} {x : Int} (h : S x = true) (he : endS p x = true) : endsS p S = true := by
  unfold endS at he
  unfold endsS
  rw [Bool.or_eq_true] at he ⊢
  rcases he with he | he
  · simp at he
    left
    rw [← he.1, h, he.2]
    rfl
  · simp at he
    right
    exact List.any_eq_true.2 ⟨x, he.2, h⟩
theorem endsS_false {p : Part} {S : Int → Bool} (hl : ∀ a ∈ p.last, 0 ≤ a) (he : ∀ x, S x = true → endS p x = false) : endsS p S = false := by
  unfold endsS
  rw [Bool.or_eq_false_iff]
  constructor
  · cases h : S (-1)
    · rfl
    · have := he _ h
      simpa [endS] using this
  · rw [List.any_eq_false]
    intro a ha h
    have := he a h
    have h0 := hl a ha
    simp [endS, ha] at this
    omega

structure EndR (w : World) (sb n : Nat) (D : DataW Unit) (p : Part) (S : Int → Bool) (left : Lit → Bool) (g : Nat) (wr : World) : Prop where
  rg : wr.ranges Tryz.prog 3 (plainElem Tryz.prog 4) sb w.heap.size n D left g
  pure : Pure w wr
  sz : w.heap.size + 1 ≤ wr.heap.size
  no : ∀ x, (Lit.int .i64 x).wf = true → S x = true → left (.int .i64 x) = false → endS p x = false

set_option maxRecDepth 100000 in
set_option maxHeartbeats 4000000 in
theorem ends_calls {w : World} {N mb sb n : Nat} {ts fs : List (List Int)} {p : Part} {S : Int → Bool} (hM : Mac w N mb ts fs p) (hO : MOk ts fs p) (hS : SetM w sb n S) (hI : InS ts.length S) :
    Calls Tryz.prog 137 #[.pointer (some ⟨mb, 0, none⟩), .map (some sb)] w fun r w' => r = .returned (.bool (endsS p S)) ∧ Pure w w' := by
  have hsb := hS.lt
  have hlt0 := hO.lt
  obtain ⟨D, hD, hSD⟩ := hS
  have HD := As.mk hD
  have HSD := As.mk hSD
  have HM := As.mk hM
  have HO := As.mk hO
  have HI := As.mk hI
  have hmN := hM.1
  have hNw := hM.2.1
  have hll := hO.ll
  clear hD hSD hM hO hI
  go_enter Tryz.func137, Tryz.ntmps137
  go_wp2_with (at_range; refine wpList_range_own _ rfl _ 185 rfl 3 4 keyed_int Tryz.underlying185 _ sb n D rfl HD.out (fun w0 hrg0 hg0 hs0 => As.out ?_))
  refine ⟨?_⟩
  go_wp2
  go_loopg [5] (Maps.size D) (fun g kv wr => ∃ left, As (EndR w sb n D p S left g wr))
  case atStart =>
    refine ⟨Maps.has D, ⟨⟨hrg0, Upd.grown1 hg0 (fun k hk => by cases hk), by omega, fun x hx h1 h2 => ?_⟩⟩⟩
    rw [HSD.out x hx, h1] at h2
    cases h2
  case round =>
    obtain ⟨left, HR⟩ := hrel
    have invV : ∀ (v : Value) (y : DataW Unit × List MemPlace), plainElem Tryz.prog 4 v = some y → ∃ c : Bool, v = .bool c := by
      intro v y hv
      cases v <;> simp [plainElem, Tryz.underlying4] at hv
      exact ⟨_, rfl⟩
    go_wp2_with (at_next; refine wpList_next_ranges _ rfl _ rfl 3 keyed_int (plainElem Tryz.prog 4) (fun x : Int => Value.int .i64 x) (fun c : Bool => Value.bool c) (fun key kl hk => by obtain ⟨x, rfl, _⟩ := Maps.keyOf_int_inv Tryz.underlying3 hk; exact ⟨x, rfl⟩) invV sb w.heap.size n D left gk rfl HR.out.rg (fun h0 hl => As.out ?_) (fun x c kl y w2 cnt2 hkey hlk hv hat hrg2 hlt hgr hsz hen => As.out ?_))
    · refine ⟨?_⟩
      have e1 : endsS p S = false := endsS_false (fun a ha => (HO.out.last a ha).1) (fun x hx => HR.out.no x (WalkArith.wf_i64 (by have := HI.out x hx; omega)) hx (hl _))
      have HE := As.mk e1
      clear hl e1
      go_wp2
      go_ret
      exact ⟨by rw [HE.out]; rfl, HR.out.pure⟩
    · refine ⟨?_⟩
      obtain ⟨x', ex, rfl, hwx⟩ := Maps.keyOf_int_inv Tryz.underlying3 hkey
      cases ex
      have hSx : S x = true := by rw [← HSD.out x hwx]; exact Maps.has_true_of_atKey hat
      obtain ⟨hx0, hx1⟩ := HI.out x hSx
      have hu2 : Upd (fun k => k = w.heap.size) wr w2 := Upd.grown1 hgr (fun k hk => by injection hk with hk; exact hk.symm)
      have hp2 : Pure w w2 := HR.out.pure.trans hu2 (fun k hk h => by omega)
      have hM2 : Mac w2 N mb ts fs p := HM.out.pure hp2
      obtain ⟨_, _, At, ct, Ag, cg, Af, cf, Al, cl, hbk, hty, hfo, hfi, hla⟩ := hM2
      have m2 : w2.cell? ⟨mb, 2, none⟩ = some (.bool p.none) := by unfold World.cell?; simp only [hbk]; rfl
      have m4 : w2.cell? ⟨mb, 4, none⟩ = some (.slice Al p.last.length cl) := by unfold World.cell?; simp only [hbk]; rfl
      have HLA := As.mk hla
      have HSX := As.mk hSx
      have HRG2 := As.mk hrg2
      have HP2 := As.mk (And.intro hp2 (Nat.le_trans HR.out.sz hu2.size))
      have hnext : endS p x = false → EndR w sb n D p S (fun z => left z && !z.sameKey (.int .i64 x)) cnt2 w2 := fun he => ⟨HRG2.out, HP2.out.1, HP2.out.2, fun z hz h1 h2 => by
        by_cases hzx : z = x
        · rw [hzx]; exact he
        · refine HR.out.no z hz h1 ?_
          simpa [Lit.sameKey, hzx] using h2⟩
      have HNX := As.mk hnext
      clear hkey hlk hv hat hrg2 hgr hsz hu2 hp2 hSx hbk hty hfo hfi hla hnext
      by_cases hx : x = -1
      · subst hx
        cases hn : p.none
        · rw [hn] at m2
          go_wp2
          go_roundg cnt2
          case measure => omega
          case rel => exact ⟨_, ⟨HNX.out (by simp [endS, hn])⟩⟩
        · rw [hn] at m2
          go_wp2
          go_ret
          exact ⟨by rw [endsS_true HSX.out (by simp [endS, hn])]; rfl, HP2.out.1⟩
      · have hne : (x == -1) = false := by simpa using hx
        have hne2 : (x != -1) = true := by simpa using hx
        cases hq : decide (x ∈ p.last)
        · have HE := As.mk (show endS p x = false by simp [endS, hx]; simpa using hq)
          go_wp2_with (go_at_call 175; refine (Contains_calls x HLA.out (by omega)).mono ?_; rintro e w3 ⟨rfl, rfl⟩; rw [hq])
          go_roundg cnt2
          case measure => omega
          case rel => exact ⟨_, ⟨HNX.out HE.out⟩⟩
        · have HE := As.mk (show endS p x = true by simp [endS, hx]; simpa using hq)
          go_wp2_with (go_at_call 175; refine (Contains_calls x HLA.out (by omega)).mono ?_; rintro e w3 ⟨rfl, rfl⟩; rw [hq])
          go_ret
          exact ⟨by rw [endsS_true HSX.out HE.out]; rfl, HP2.out.1⟩
end Go.Proofs.YtfapglhdakhbeaaGreatDoor
namespace Go.Proofs.YtfapglhdakhbeaaGreatDoor
open Go.RowKit
set_option linter.unusedVariables false
set_option linter.unusedSimpArgs false

/-- Followers are places. -/
def FrIn (s : St) : Prop := s.2.length = s.1.length ∧ ∀ x ∈ s.2, ∀ a ∈ x, 0 ≤ a ∧ a < s.1.length
theorem joinF_in {fs : List (List Int)} {last first : List Int} {n : Nat} (h : ∀ x ∈ fs, ∀ a ∈ x, 0 ≤ a ∧ a < n) (hf : ∀ a ∈ first, 0 ≤ a ∧ a < n) : ∀ x ∈ joinF fs last first, ∀ a ∈ x, 0 ≤ a ∧ a < n := by
  unfold joinF
  induction last generalizing fs with
  | nil => exact h
  | cons b r ih =>
    simp only [List.foldl_cons]
    refine ih (fun x hx a ha => ?_)
    rw [List.mem_iff_getElem?] at hx
    obtain ⟨i, hi⟩ := hx
    rw [List.getElem?_modify] at hi
    split at hi
    · obtain ⟨y, hy, rfl⟩ := Option.map_eq_some_iff.1 hi
      rcases List.mem_append.1 ha with ha | ha
      · exact h y (List.mem_of_getElem? hy) a ha
      · exact hf a ha
    · obtain ⟨y, hy, rfl⟩ := Option.map_eq_some_iff.1 hi
      exact h y (List.mem_of_getElem? hy) a ha
theorem FrIn.up {s : St} {n : Nat} (h : FrIn s) (hn : s.1.length ≤ n) : ∀ x ∈ s.2, ∀ a ∈ x, 0 ≤ a ∧ a < n := fun x hx a ha => by have := h.2 x hx a ha; omega
mutual
theorem glu_fr (g : List Grp) : ∀ (e : Ex) (s : St), FrIn s → FrIn (glu g e s).1
  | .mk k nm l, s, hs => by
    rw [glu]
    by_cases h0 : k = 0
    · rw [if_pos h0]; exact hs
    · rw [if_neg h0]
      by_cases h1 : k = 1
      · rw [if_pos h1]
        refine ⟨by simp [hs.1], fun x hx a ha => ?_⟩
        rcases List.mem_append.1 hx with hx | hx
        · have := hs.2 x hx a ha
          simp only [List.length_append, List.length_singleton]
          omega
        · simp at hx; subst hx; cases ha
      · rw [if_neg h1]
        by_cases h3 : k = 3
        · rw [if_pos h3]; exact gluAlt_fr g l s _ hs
        · rw [if_neg h3]
          by_cases h2 : k = 2
          · rw [if_pos h2]; exact gluSeq_fr g l s _ hs (by simp)
          · rw [if_neg h2]
            have h4 := gluOne_fr g l s hs
            have h5 := gluOne_bd g l s
            refine ⟨?_, ?_⟩
            · dsimp only
              split
              · rw [joinF_len]; exact h4.1
              · exact h4.1
            · dsimp only
              split
              · exact joinF_in h4.2 h5.first
              · exact h4.2
theorem gluOne_fr (g : List Grp) : ∀ (l : List Ex) (s : St), FrIn s → FrIn (gluOne g l s).1
  | [], s, h => h
  | x :: _, s, h => glu_fr g x s h
theorem gluAlt_fr (g : List Grp) : ∀ (l : List Ex) (s : St) (p : Part), FrIn s → FrIn (gluAlt g l s p).1
  | [], s, p, h => h
  | x :: r, s, p, h => gluAlt_fr g r _ _ (glu_fr g x s h)
theorem gluSeq_fr (g : List Grp) : ∀ (l : List Ex) (s : St) (p : Part), FrIn s → (∀ a ∈ p.last, 0 ≤ a) → FrIn (gluSeq g l s p).1
  | [], s, p, h, _ => h
  | x :: r, s, p, h, hp => by
    have h1 := glu_fr g x s h
    have h2 := glu_bd g x s
    refine gluSeq_fr g r _ _ ⟨by rw [joinF_len]; exact h1.1, joinF_in h1.2 h2.first⟩ (fun a ha => ?_)
    rcases mem_ite_r ha with ha | ha
    · exact hp a ha
    · exact (h2.last a ha).1
end
mutual
/-- The types of places are those of names. -/
theorem glu_ty (g : List Grp) (Q : List Int → Prop) (hQ : ∀ nm, Q (typesOf g nm)) : ∀ (e : Ex) (s : St), (∀ x ∈ s.1, Q x) → ∀ x ∈ (glu g e s).1.1, Q x
  | .mk k nm l, s, hs => by
    rw [glu]
    by_cases h0 : k = 0
    · rw [if_pos h0]; exact hs
    · rw [if_neg h0]
      by_cases h1 : k = 1
      · rw [if_pos h1]
        intro x hx
        rcases List.mem_append.1 hx with hx | hx
        · exact hs x hx
        · simp at hx; subst hx; exact hQ nm
      · rw [if_neg h1]
        by_cases h3 : k = 3
        · rw [if_pos h3]; exact gluAlt_ty g Q hQ l s _ hs
        · rw [if_neg h3]
          by_cases h2 : k = 2
          · rw [if_pos h2]; exact gluSeq_ty g Q hQ l s _ hs
          · rw [if_neg h2]; exact gluOne_ty g Q hQ l s hs
theorem gluOne_ty (g : List Grp) (Q : List Int → Prop) (hQ : ∀ nm, Q (typesOf g nm)) : ∀ (l : List Ex) (s : St), (∀ x ∈ s.1, Q x) → ∀ x ∈ (gluOne g l s).1.1, Q x
  | [], s, h => h
  | x :: _, s, h => glu_ty g Q hQ x s h
theorem gluAlt_ty (g : List Grp) (Q : List Int → Prop) (hQ : ∀ nm, Q (typesOf g nm)) : ∀ (l : List Ex) (s : St) (p : Part), (∀ x ∈ s.1, Q x) → ∀ x ∈ (gluAlt g l s p).1.1, Q x
  | [], s, p, h => h
  | x :: r, s, p, h => gluAlt_ty g Q hQ r _ _ (glu_ty g Q hQ x s h)
theorem gluSeq_ty (g : List Grp) (Q : List Int → Prop) (hQ : ∀ nm, Q (typesOf g nm)) : ∀ (l : List Ex) (s : St) (p : Part), (∀ x ∈ s.1, Q x) → ∀ x ∈ (gluSeq g l s p).1.1, Q x
  | [], s, p, h => h
  | x :: r, s, p, h => gluSeq_ty g Q hQ r _ _ (glu_ty g Q hQ x s h)
end
theorem typesOf_mem (g : List Grp) (nm : ByteArray) : typesOf g nm = [] ∨ ∃ x ∈ g, typesOf g nm = x.types := by
  induction g with
  | nil => exact .inl rfl
  | cons x r ih =>
    unfold typesOf
    split
    · exact .inr ⟨x, by simp, rfl⟩
    · rcases ih with ih | ⟨y, hy, h⟩
      · exact .inl ih
      · exact .inr ⟨y, by simp [hy], h⟩
theorem long_types {g : List Grp} (h : longB g = false) : ∀ x ∈ g, x.types.length ≤ 16 ∧ ∀ t ∈ x.types, 0 ≤ t ∧ t < 16 := by
  unfold longB at h
  rw [Bool.or_eq_false_iff, List.any_eq_false] at h
  intro x hx
  have := h.2 x hx
  unfold grpB at this
  rw [Bool.not_eq_true, Bool.or_eq_false_iff, List.any_eq_false] at this
  refine ⟨by have := this.1; simp at this; exact this, fun t ht => ?_⟩
  have := this.2 t ht
  unfold outB at this
  simp at this
  exact this
/-- The machine of a tree. -/
abbrev mcT (g : List Grp) (e : Ex) : List (List Int) := (glu g e ([], [])).1.1
abbrev mcF (g : List Grp) (e : Ex) : List (List Int) := (glu g e ([], [])).1.2
abbrev mcP (g : List Grp) (e : Ex) : Part := (glu g e ([], [])).2
theorem mc_ok {g : List Grp} {e : Ex} (h : regCheck e g = 0) : MOk (mcT g e) (mcF g e) (mcP g e) := by
  obtain ⟨h1, h2, _⟩ := regCheck_zero h
  obtain ⟨hcnt, _⟩ := exprCheck_zero h1
  have hb := glu_bd g e ([], [])
  have hf := glu_fr g e ([], []) ⟨rfl, by simp⟩
  have hfb := glu_fb g e ([], []) 0 (by simp) hcnt
  have ht := glu_ty g (fun x => x.length ≤ 16) (fun nm => by
    rcases typesOf_mem g nm with h | ⟨x, hx, h⟩
    · rw [h]; simp
    · rw [h]; exact (long_types h2 x hx).1) e ([], []) (by simp)
  have hhi := hb.hi
  simp only [List.length_nil, Nat.zero_add] at hhi
  refine ⟨by show (glu g e ([], [])).1.1.length ≤ 1000; omega, fun x hx => by have := ht x hx; omega, hf.1, fun x a ha => ?_, fun x => ?_, hb.last, by have := hb.ll; show (glu g e ([], [])).2.last.length ≤ _; omega⟩
  · unfold nextsOf at ha
    split at ha
    · exact hb.first a ha
    · cases hx : (mcF g e)[x.toNat]? with
      | none => simp [List.getD, hx] at ha
      | some y => simp [List.getD, hx] at ha; exact hf.2 y (List.mem_of_getElem? hx) a ha
  · unfold nextsOf
    split
    · have := hb.fl; show (glu g e ([], [])).2.first.length ≤ _; omega
    · cases hx : (mcF g e)[x.toNat]? with
      | none => simp [List.getD, hx]
      | some y => simp [List.getD, hx]; have := hfb y (List.mem_of_getElem? hx); omega

/-- What reg.Accepts, Begins, Nexts say. -/
def regRun (e : Ex) (g : List Grp) (word : List Int) : (Int → Bool) × Nat := runS (mcT g e) (mcF g e) (mcP g e) startS word
def regAccepts (e : Ex) (g : List Grp) (word : List Int) : Bool := decide (regCheck e g = 0) && (decide ((regRun e g word).2 = word.length) && endsS (mcP g e) (regRun e g word).1)
def regBegins (e : Ex) (g : List Grp) (word : List Int) : Nat := if regCheck e g = 0 then (regRun e g word).2 else 0
def regNext1 (e : Ex) (g : List Grp) (word : List Int) (t : Nat) : Bool := !emptyS (mcT g e).length (stepS (mcT g e) (mcF g e) (mcP g e) (regRun e g word).1 t)
def regNexts (e : Ex) (g : List Grp) (word : List Int) : List Int := if regCheck e g = 0 ∧ (regRun e g word).2 = word.length then ((List.range 16).filter (regNext1 e g word)).map (fun t : Nat => (t : Int)) else []
theorem runS_le (ts fs : List (List Int)) (p : Part) : ∀ (word : List Int) (S : Int → Bool), (runS ts fs p S word).2 ≤ word.length := by
  intro word
  induction word with
  | nil => intro S; exact Nat.le_refl _
  | cons t r ih =>
    intro S
    unfold runS
    split
    · exact Nat.zero_le _
    · exact Nat.succ_le_succ (ih _)
end Go.Proofs.YtfapglhdakhbeaaGreatDoor
