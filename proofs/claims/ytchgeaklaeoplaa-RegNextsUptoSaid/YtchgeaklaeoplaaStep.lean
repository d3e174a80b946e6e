/- reg.machine.step: its closure, and it. -/
import Derived.Test.YtchgeaklaeoplaaSet
namespace Go.Proofs.Ytchgeaklaeoplaa
open Go.RowKit
open Go.Maps (Keyed)
set_option linter.unusedVariables false
set_option linter.unusedSimpArgs false

/-- Which places of a list a type may come to. -/
def addS (ts : List (List Int)) (t : Int) (l : List Int) (y : Int) : Bool := l.any (fun a => decide (a = y) && decide (t ∈ ts.getD a.toNat []))

theorem tyrow_at {w : World} {R : Nat → Prop} {A : Option Addr} {ts : List (List Int)} (h : intR.slice.row w R A ts) {n : Nat} {x : List Int} (hx : ts[n]? = some x) :
    ∃ b o A1 c1, A = some ⟨b, o, none⟩ ∧ b < w.heap.size ∧ w.cell? ⟨b, o + n, none⟩ = some (.slice A1 x.length c1) ∧ intR.row w R A1 x := by
  obtain ⟨b, o, cs, hA, _, hb, ⟨A1, c1, rfl, _, hr⟩, hc⟩ := Rp.row_at h hx
  have := hc 0 _ rfl
  rw [show intR.slice.sz = 1 from rfl, Nat.mul_one, Nat.add_zero] at this
  exact ⟨b, o, A1, c1, hA, hb, this, hr⟩

theorem addS_succ {ts : List (List Int)} {t : Int} {l : List Int} {k : Nat} {a : Int} (ha : l[k]? = some a) (y : Int) : addS ts t (l.take (k + 1)) y = (addS ts t (l.take k) y || (decide (a = y) && decide (t ∈ ts.getD a.toNat []))) := by
  unfold addS
  rw [List.take_add_one, ha, List.any_append]
  simp
theorem SetM.mono {w : World} {b n n' : Nat} {S : Int → Bool} (h : SetM w b n S) (hn : n ≤ n') : SetM w b n' S := by
  obtain ⟨D, hD, hS⟩ := h
  exact ⟨D, hD.mono hn, hS⟩
theorem SetM.same {w : World} {b n : Nat} {S S' : Int → Bool} (h : SetM w b n S) (hn : ∀ x, S x = S' x) : SetM w b n S' := by
  have e : S = S' := funext hn
  rw [← e]
  exact h

set_option maxRecDepth 100000 in
set_option maxHeartbeats 4000000 in
theorem add_calls {w : World} {N mb bm bt bo ob n : Nat} {ts fs : List (List Int)} {p : Part} {t : Int} {S : Int → Bool} {F : Nat → Prop} {A : Option Addr} {c : Nat} {l : List Int} (hM : Mac w N mb ts fs p) (hNo : N ≤ ob) (hm : w.cell? ⟨bm, 0, none⟩ = some (.pointer (some ⟨mb, 0, none⟩))) (ht : w.cell? ⟨bt, 0, none⟩ = some (.int .i64 t)) (ho : w.cell? ⟨bo, 0, none⟩ = some (.map (some ob)))
    (hlm : bm < w.heap.size) (hltt : bt < w.heap.size) (hlo : bo < w.heap.size) (hne : ∀ k, k = mb ∨ k = bm ∨ k = bt ∨ k = bo → k ≠ ob) (hS : SetM w ob n S) (hr : intR.row w F A l) (hF : ∀ k, F k → k < N) (hrng : ∀ a ∈ l, 0 ≤ a ∧ a < ts.length) (hb : l.length ≤ 1048576 * 1000) (hn : n + l.length ≤ 1048576 * 1048576) (htl : ∀ x ∈ ts, x.length ≤ 1048576) (hts : ts.length ≤ 1048576) :
    Calls Try.prog 44 #[.slice A l.length c, .pointer (some ⟨bm, 0, none⟩), .pointer (some ⟨bt, 0, none⟩), .pointer (some ⟨bo, 0, none⟩)] w fun r w' => r = .returned (.tuple #[]) ∧ SetM w' ob (n + l.length) (fun y => S y || addS ts t l y) ∧ Upd (fun k => k = ob) w w' := by
  have HM := As.mk hM
  have HR := As.mk hr
  have HG := As.mk hrng
  have HS := As.mk hS
  have HTL := As.mk htl
  have HNE := As.mk hne
  have HC := As.mk (And.intro hm (And.intro ht ho))
  clear hM hr hrng hS htl hne hm ht ho
  go_enter Try.func44, Try.ntmps44
  go_wp2
  go_loopg [9] l.length (fun g i wr => ∃ k : Nat, k + g = l.length ∧ i = .int .i64 k ∧ As (SetM wr ob (n + k) (fun y => S y || addS ts t (l.take k) y) ∧ Upd (fun k => k = ob) w wr))
  case atStart => exact ⟨0, by omega, rfl, ⟨by simpa [addS] using HS.out, Upd.refl _ _⟩⟩
  case round =>
    obtain ⟨k, hk, rfl, HP⟩ := hrel
    obtain ⟨hset, hu⟩ := HP.out
    by_cases hlt : k < l.length
    · obtain ⟨x, hx⟩ : ∃ x, l[k]? = some x := ⟨_, List.getElem?_eq_getElem hlt⟩
      obtain ⟨g1, rfl⟩ : ∃ m, gk = m + 1 := ⟨gk - 1, by omega⟩
      obtain ⟨b, o, rfl, hFb, hbb, d0⟩ := int_at (Rp.row_upd HR.out hu (fun q _ hq he => by have := hF q hq; omega)) hx
      obtain ⟨hx0, hx1⟩ := HG.out x (List.mem_of_getElem? hx)
      obtain ⟨a, rfl⟩ : ∃ a : Nat, x = a := ⟨x.toNat, by omega⟩
      obtain ⟨hmN, hNw, At, ct, Ag, cg, Af, cf, Al, cl, hbk, hty, _, _, _⟩ := HM.out.upd hu (fun q hq => by omega)
      obtain ⟨y, hy⟩ : ∃ y, ts[a]? = some y := ⟨_, List.getElem?_eq_getElem (by omega)⟩
      obtain ⟨tb, to1, A1, c1, rfl, htb, d1, hyr⟩ := tyrow_at hty hy
      have hyl := HTL.out y (List.mem_of_getElem? hy)
      have m0 : wr.cell? ⟨mb, 0, none⟩ = some (.slice (some ⟨tb, to1, none⟩) ts.length ct) := by unfold World.cell?; simp only [hbk]; rfl
      obtain ⟨hcm, hct, hco⟩ := HC.out
      have k1 : wr.cell? ⟨bm, 0, none⟩ = some (.pointer (some ⟨mb, 0, none⟩)) := (hu.cell hlm (HNE.out bm (by simp))).trans hcm
      have k2 : wr.cell? ⟨bt, 0, none⟩ = some (.int .i64 t) := (hu.cell hltt (HNE.out bt (by simp))).trans hct
      have k3 : wr.cell? ⟨bo, 0, none⟩ = some (.map (some ob)) := (hu.cell hlo (HNE.out bo (by simp))).trans hco
      have HS1 := As.mk hset
      have HU1 := As.mk hu
      have HYR := As.mk hyr
      have HAS := As.mk (fun z => addS_succ (ts := ts) (t := t) hx z)
      have hgd : ts.getD ((a : Int).toNat) [] = y := by simp [List.getD, hy]
      rw [hgd] at HAS
      have HK := As.mk hk
      have ha1 : (a : Int) < (ts.length : Int) := by omega
      have HQ := As.mk (show wr.drew.cell? ⟨bm, 0, none⟩ = some (.pointer (some ⟨mb, 0, none⟩)) ∧ wr.drew.cell? ⟨mb, 0, none⟩ = some (.slice (some ⟨tb, to1, none⟩) ts.length ct) ∧ wr.drew.cell? ⟨tb, to1 + a, none⟩ = some (.slice A1 y.length c1) ∧ wr.drew.cell? ⟨bt, 0, none⟩ = some (.int .i64 t) from ⟨k1, m0, d1, k2⟩)
      clear hk hx hset hu hyr hty hbk hy k1 k2 m0 hcm hct hco hgd
      cases hq : decide (t ∈ y)
      · rw [hq] at HAS
        go_wp2
        refine wp_region_held_drew (S := (fun v => v.cell? ⟨bm, 0, none⟩ = some (.pointer (some ⟨mb, 0, none⟩)) ∧ v.cell? ⟨mb, 0, none⟩ = some (.slice (some ⟨tb, to1, none⟩) ts.length ct) ∧ v.cell? ⟨tb, to1 + a, none⟩ = some (.slice A1 y.length c1) ∧ v.cell? ⟨bt, 0, none⟩ = some (.int .i64 t))) (by kernel_rfl) ?_ (fun hHeld => ?_)
        · exact HQ.out
        refine wpAnyH_take (i := 0) (oi := { dst := (some 13), op := (Go.Op.load 43 (Go.Operand.tmp 1)), type := 43, pos := "reg.go:133", after := #[], guard := none }) (v := ?_) rfl (by kernel_rfl) (by kernel_rfl) (by kernel_rfl) (fun _ _ _ h => h) (Or.inl ⟨by rfl, (by intro w hSw; (try dsimp only at hSw); go_simp; try with_reducible rfl)⟩) (by assumption) ?_
        (try simp only [Act.put, List.setIfInBounds_toArray, List.set_cons_zero, List.set_cons_succ])
        refine wpAnyH_take (i := 1) (oi := { dst := (some 14), op := (Go.Op.nilCheck (Go.Operand.tmp 13)), type := 0, pos := "reg.go:133", after := #[{ on := 0, ground := Go.Ground.data }], guard := none }) (v := ?_) rfl (by kernel_rfl) (by kernel_rfl) (by kernel_rfl) (fun _ _ _ h => h) (Or.inl ⟨by rfl, (by intro w hSw; (try dsimp only at hSw); go_simp; try with_reducible rfl)⟩) (by assumption) ?_
        (try simp only [Act.put, List.setIfInBounds_toArray, List.set_cons_zero, List.set_cons_succ])
        refine wpAnyH_take (i := 2) (oi := { dst := (some 15), op := (Go.Op.fieldAddr 69 (Go.Operand.tmp 14) 0), type := 0, pos := "reg.go:133", after := #[{ on := 1, ground := Go.Ground.data }], guard := none }) (v := ?_) rfl (by kernel_rfl) (by kernel_rfl) (by kernel_rfl) (fun _ _ _ h => h) (Or.inl ⟨by rfl, (by intro w hSw; (try dsimp only at hSw); go_simp; try with_reducible rfl)⟩) (by assumption) ?_
        (try simp only [Act.put, List.setIfInBounds_toArray, List.set_cons_zero, List.set_cons_succ])
        refine wpAnyH_take (i := 3) (oi := { dst := (some 16), op := (Go.Op.load 65 (Go.Operand.tmp 15)), type := 65, pos := "reg.go:133", after := #[{ on := 2, ground := Go.Ground.data }], guard := none }) (v := ?_) rfl (by kernel_rfl) (by kernel_rfl) (by kernel_rfl) (fun _ _ _ h => h) (Or.inl ⟨by rfl, (by intro w hSw; (try dsimp only at hSw); go_simp; try with_reducible rfl)⟩) (by assumption) ?_
        (try simp only [Act.put, List.setIfInBounds_toArray, List.set_cons_zero, List.set_cons_succ])
        refine wpAnyH_take (i := 4) (oi := { dst := (some 17), op := (Go.Op.move (Go.Operand.tmp 6)), type := 3, pos := "reg.go:133", after := #[], guard := none }) (v := ?_) rfl (by kernel_rfl) (by kernel_rfl) (by kernel_rfl) (fun _ _ _ h => h) (Or.inl ⟨by rfl, (by intro w hSw; (try dsimp only at hSw); go_simp; try with_reducible rfl)⟩) (by assumption) ?_
        (try simp only [Act.put, List.setIfInBounds_toArray, List.set_cons_zero, List.set_cons_succ])
        refine wpAnyH_take (i := 5) (oi := { dst := (some 18), op := (Go.Op.indexAddr 65 (Go.Operand.tmp 16) (Go.Operand.tmp 17)), type := 0, pos := "reg.go:133", after := #[{ on := 3, ground := Go.Ground.data }, { on := 4, ground := Go.Ground.data }], guard := none }) (v := ?_) rfl (by kernel_rfl) (by kernel_rfl) (by kernel_rfl) (fun _ _ _ h => h) (Or.inl ⟨by rfl, (by intro w hSw; (try dsimp only at hSw); go_simp; try with_reducible rfl)⟩) (by assumption) ?_
        (try simp only [Act.put, List.setIfInBounds_toArray, List.set_cons_zero, List.set_cons_succ])
        refine wpAnyH_take (i := 6) (oi := { dst := (some 19), op := (Go.Op.load 26 (Go.Operand.tmp 18)), type := 26, pos := "reg.go:133", after := #[{ on := 5, ground := Go.Ground.data }], guard := none }) (v := ?_) rfl (by kernel_rfl) (by kernel_rfl) (by kernel_rfl) (fun _ _ _ h => h) (Or.inl ⟨by rfl, (by intro w hSw; (try dsimp only at hSw); go_simp; try with_reducible rfl)⟩) (by assumption) ?_
        (try simp only [Act.put, List.setIfInBounds_toArray, List.set_cons_zero, List.set_cons_succ])
        refine wpAnyH_take (i := 7) (oi := { dst := (some 20), op := (Go.Op.load 3 (Go.Operand.tmp 2)), type := 3, pos := "reg.go:133", after := #[], guard := none }) (v := ?_) rfl (by kernel_rfl) (by kernel_rfl) (by kernel_rfl) (fun _ _ _ h => h) (Or.inl ⟨by rfl, (by intro w hSw; (try dsimp only at hSw); go_simp; try with_reducible rfl)⟩) (by assumption) ?_
        (try simp only [Act.put, List.setIfInBounds_toArray, List.set_cons_zero, List.set_cons_succ])
        refine wpAnyH_ready (rs := [8]) (by kernel_rfl) (by simp) (AllReadyH.cons (o := { dst := (some 21), op := (Go.Op.call { callee := (Go.Callee.value (Go.Operand.func 36)), args := #[(Go.Operand.tmp 19), (Go.Operand.tmp 20)], argTypes := #[26, 3] }), type := 4, pos := "reg.go:133", after := #[{ on := 6, ground := Go.Ground.data }, { on := 7, ground := Go.Ground.data }], guard := none }) rfl (fun K hK => ?_) AllReadyH.nil)
        go_simp
        (go_at_call 36; refine (Contains_calls t (Rp.row_pure HYR.out ((Upd.refl (fun _ => False) wr).drew)) (by omega)).mono ?_; rintro e w1 ⟨rfl, rfl⟩; rw [hq])
        refine hK.out _ _ (by exact HQ.out) (fun hHeld => ?_)
        clear hK K
        (try simp only [Act.put, List.setIfInBounds_toArray, List.set_cons_zero, List.set_cons_succ])
        refine wpAnyH_done (by kernel_rfl) ?_ _
        go_wp2
        go_roundg g1
        case measure => omega
        case rel => exact ⟨k + 1, by have := HK.out; omega, by go_num, ⟨((HS1.out.mono (Nat.le_succ _)).same (fun z => by rw [HAS.out z]; simp)).kept ((Upd.refl (fun _ => False) wr).drew) (fun h => h), HU1.out.drew⟩⟩
      · rw [hq] at HAS
        obtain ⟨D, hD, hSD⟩ := HS1.out
        have HD := As.mk hD
        have HSD := As.mk hSD
        have HWF := As.mk (WalkArith.wf_i64 (n := (a : Int)) (by omega))
        have k3d : wr.drew.cell? ⟨bo, 0, none⟩ = some (.map (some ob)) := k3
        clear hD hSD
        go_wp2
        refine wp_region_held_drew (S := (fun v => v.cell? ⟨bm, 0, none⟩ = some (.pointer (some ⟨mb, 0, none⟩)) ∧ v.cell? ⟨mb, 0, none⟩ = some (.slice (some ⟨tb, to1, none⟩) ts.length ct) ∧ v.cell? ⟨tb, to1 + a, none⟩ = some (.slice A1 y.length c1) ∧ v.cell? ⟨bt, 0, none⟩ = some (.int .i64 t))) (by kernel_rfl) ?_ (fun hHeld => ?_)
        · exact HQ.out
        refine wpAnyH_take (i := 0) (oi := { dst := (some 13), op := (Go.Op.load 43 (Go.Operand.tmp 1)), type := 43, pos := "reg.go:133", after := #[], guard := none }) (v := ?_) rfl (by kernel_rfl) (by kernel_rfl) (by kernel_rfl) (fun _ _ _ h => h) (Or.inl ⟨by rfl, (by intro w hSw; (try dsimp only at hSw); go_simp; try with_reducible rfl)⟩) (by assumption) ?_
        (try simp only [Act.put, List.setIfInBounds_toArray, List.set_cons_zero, List.set_cons_succ])
        refine wpAnyH_take (i := 1) (oi := { dst := (some 14), op := (Go.Op.nilCheck (Go.Operand.tmp 13)), type := 0, pos := "reg.go:133", after := #[{ on := 0, ground := Go.Ground.data }], guard := none }) (v := ?_) rfl (by kernel_rfl) (by kernel_rfl) (by kernel_rfl) (fun _ _ _ h => h) (Or.inl ⟨by rfl, (by intro w hSw; (try dsimp only at hSw); go_simp; try with_reducible rfl)⟩) (by assumption) ?_
        (try simp only [Act.put, List.setIfInBounds_toArray, List.set_cons_zero, List.set_cons_succ])
        refine wpAnyH_take (i := 2) (oi := { dst := (some 15), op := (Go.Op.fieldAddr 69 (Go.Operand.tmp 14) 0), type := 0, pos := "reg.go:133", after := #[{ on := 1, ground := Go.Ground.data }], guard := none }) (v := ?_) rfl (by kernel_rfl) (by kernel_rfl) (by kernel_rfl) (fun _ _ _ h => h) (Or.inl ⟨by rfl, (by intro w hSw; (try dsimp only at hSw); go_simp; try with_reducible rfl)⟩) (by assumption) ?_
        (try simp only [Act.put, List.setIfInBounds_toArray, List.set_cons_zero, List.set_cons_succ])
        refine wpAnyH_take (i := 3) (oi := { dst := (some 16), op := (Go.Op.load 65 (Go.Operand.tmp 15)), type := 65, pos := "reg.go:133", after := #[{ on := 2, ground := Go.Ground.data }], guard := none }) (v := ?_) rfl (by kernel_rfl) (by kernel_rfl) (by kernel_rfl) (fun _ _ _ h => h) (Or.inl ⟨by rfl, (by intro w hSw; (try dsimp only at hSw); go_simp; try with_reducible rfl)⟩) (by assumption) ?_
        (try simp only [Act.put, List.setIfInBounds_toArray, List.set_cons_zero, List.set_cons_succ])
        refine wpAnyH_take (i := 4) (oi := { dst := (some 17), op := (Go.Op.move (Go.Operand.tmp 6)), type := 3, pos := "reg.go:133", after := #[], guard := none }) (v := ?_) rfl (by kernel_rfl) (by kernel_rfl) (by kernel_rfl) (fun _ _ _ h => h) (Or.inl ⟨by rfl, (by intro w hSw; (try dsimp only at hSw); go_simp; try with_reducible rfl)⟩) (by assumption) ?_
        (try simp only [Act.put, List.setIfInBounds_toArray, List.set_cons_zero, List.set_cons_succ])
        refine wpAnyH_take (i := 5) (oi := { dst := (some 18), op := (Go.Op.indexAddr 65 (Go.Operand.tmp 16) (Go.Operand.tmp 17)), type := 0, pos := "reg.go:133", after := #[{ on := 3, ground := Go.Ground.data }, { on := 4, ground := Go.Ground.data }], guard := none }) (v := ?_) rfl (by kernel_rfl) (by kernel_rfl) (by kernel_rfl) (fun _ _ _ h => h) (Or.inl ⟨by rfl, (by intro w hSw; (try dsimp only at hSw); go_simp; try with_reducible rfl)⟩) (by assumption) ?_
        (try simp only [Act.put, List.setIfInBounds_toArray, List.set_cons_zero, List.set_cons_succ])
        refine wpAnyH_take (i := 6) (oi := { dst := (some 19), op := (Go.Op.load 26 (Go.Operand.tmp 18)), type := 26, pos := "reg.go:133", after := #[{ on := 5, ground := Go.Ground.data }], guard := none }) (v := ?_) rfl (by kernel_rfl) (by kernel_rfl) (by kernel_rfl) (fun _ _ _ h => h) (Or.inl ⟨by rfl, (by intro w hSw; (try dsimp only at hSw); go_simp; try with_reducible rfl)⟩) (by assumption) ?_
        (try simp only [Act.put, List.setIfInBounds_toArray, List.set_cons_zero, List.set_cons_succ])
        refine wpAnyH_take (i := 7) (oi := { dst := (some 20), op := (Go.Op.load 3 (Go.Operand.tmp 2)), type := 3, pos := "reg.go:133", after := #[], guard := none }) (v := ?_) rfl (by kernel_rfl) (by kernel_rfl) (by kernel_rfl) (fun _ _ _ h => h) (Or.inl ⟨by rfl, (by intro w hSw; (try dsimp only at hSw); go_simp; try with_reducible rfl)⟩) (by assumption) ?_
        (try simp only [Act.put, List.setIfInBounds_toArray, List.set_cons_zero, List.set_cons_succ])
        refine wpAnyH_ready (rs := [8]) (by kernel_rfl) (by simp) (AllReadyH.cons (o := { dst := (some 21), op := (Go.Op.call { callee := (Go.Callee.value (Go.Operand.func 36)), args := #[(Go.Operand.tmp 19), (Go.Operand.tmp 20)], argTypes := #[26, 3] }), type := 4, pos := "reg.go:133", after := #[{ on := 6, ground := Go.Ground.data }, { on := 7, ground := Go.Ground.data }], guard := none }) rfl (fun K hK => ?_) AllReadyH.nil)
        go_simp
        (go_at_call 36; refine (Contains_calls t (Rp.row_pure HYR.out ((Upd.refl (fun _ => False) wr).drew)) (by omega)).mono ?_; rintro e w1 ⟨rfl, rfl⟩; rw [hq])
        refine hK.out _ _ (by exact HQ.out) (fun hHeld => ?_)
        clear hK K
        (try simp only [Act.put, List.setIfInBounds_toArray, List.set_cons_zero, List.set_cons_succ])
        refine wpAnyH_done (by kernel_rfl) ?_ _
        go_wp2_with (at_mapUpdate; refine wpList_mapUpdate_own _ rfl _ _ _ 46 rfl 3 4 keyed_int Try.underlying46 _ ob (n + k) D rfl HD.out.drew (by unfold maxLen; omega) _ _ _ rfl rfl (Maps.keyOf_int_mk Try.underlying3 HWF.out) _ [] (plainElem_bool Try.underlying4 true) ?_; intro w1 hown1 hg1)
        go_roundg g1
        case measure => omega
        case rel =>
          refine ⟨k + 1, by have := HK.out; omega, by go_num, ⟨⟨_, hown1, fun z hz => ?_⟩, Upd.trans (HU1.out.drew) (Upd.grown1 (S := fun q => q = ob) hg1 (fun q hq => by injection hq with hq; exact hq.symm)) (fun _ _ h => h)⟩⟩
          rw [has_put (World.ownsMap.isMap HD.out) _ _ _ HWF.out, HSD.out z hz]
          show _ = (S z || addS ts t (List.take (k + 1) l) z)
          rw [HAS.out z]
          have e1 : decide (z = (a : Int)) = decide ((a : Int) = z) := by rw [Bool.eq_iff_iff]; simp [eq_comm]
          rw [e1, Bool.and_true, Bool.or_assoc]
    · have hkl : k = l.length := by omega
      subst hkl
      rw [List.take_length] at hset
      have HS1 := As.mk hset
      have HU1 := As.mk hu
      clear hset hu HP
      go_wp2
      go_end0
      exact ⟨rfl, HS1.out, HU1.out⟩
end Go.Proofs.Ytchgeaklaeoplaa
