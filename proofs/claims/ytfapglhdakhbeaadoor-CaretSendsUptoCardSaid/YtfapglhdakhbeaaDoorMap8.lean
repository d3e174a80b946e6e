/- emenderref08.Map. (printed by gen/gen_map8.py) -/
import Derived.Test.YtfapglhdakhbeaaDoorSend8
import Derived.Test.YtfapglhdakhbeaaDoorHeldTwo
import Derived.Test.YtfapglhdakhbeaaDoorHeldZ
namespace Go.Proofs.YtfapglhdakhbeaaDoor
open Go.RowKit
set_option linter.unusedVariables false
set_option linter.unusedSimpArgs false

/-- The reference's map of places. -/
def Map8C (w : World) (A : Option Addr) (c : Nat) (m : List Rng) : Prop := ∀ (W : World), Pure w W → ∀ p side : Int, Calls Tryd.prog 8 #[.slice A m.length c, .int .i64 p, .int .i64 side] W fun r w' => SpotE (mapV m p side).1 (mapV m p side).2 r ∧ Pure W w'
section
variable {P : Program} {ops : Array Oper} {Q : Exit → Act → World → Prop} {md : Region.Mode} {S : World → Prop} {L : Nat}
theorem sT (i : Nat) {oi : Oper} {fuel : Nat} {listed : Array Bool} {a : Act} {w : World}
    (h : wpAnyT P md ops Q S L fuel (listed.setIfInBounds i true) (a.put oi.dst undef) w) (hi : ops[i]? = some oi := by exact opAt rfl) (hc : (okH md ops listed i && waitsOn md ops L i) = true := by kernel_rfl)
    (hQ : ∀ c a w, Q (.panic c) (a.put oi.dst undef) w → Q (.panic c) a w := by exact fun _ _ _ h => h) (h1 : Region.wanted oi (yielded ops a.tmps) = false := by rfl)
    (hS : S w := by assumption) : wpAnyT P md ops Q S L (fuel + 1) listed a w := by
  rw [Bool.and_eq_true] at hc
  exact wpAnyT_take hi (okH_iff hc.1).1 (okH_iff hc.1).2.1 (okH_iff hc.1).2.2 hc.2 hQ (Or.inr ⟨h1, rfl⟩) hS h
end
theorem spot_end {fn : Func} {p q : Tmp} (hres : fn.results = #[.cell p 31, .tmp q]) (tmps : Array Value) {w : World} {rb : Nat} {y0 y1 y2 y3 : Value} {t : TypeId} {fr : Nat × Nat} (hp : tmps.getD p undef = .pointer (some ⟨rb, 0, none⟩)) (hg : w.heap[rb]? = some (.cells #[y0, y1, y2, y3] t fr)) :
    (results fn tmps).run Tryd.prog w = .ok (.tuple #[.agg #[y0, y1, y2, y3], tmps.getD q undef]) w := by
  have hp' : tmps[p]?.getD undef = .pointer (some ⟨rb, 0, none⟩) := by simpa using hp
  simp [results, hres, hp', asAddr, run_loadVar_row (P := Tryd.prog) _ rb t 31 _ fr _ hg Tryd.underlying31 rfl (by kernel_rfl)]
theorem up_one {w V : World} {X : Obj} (h : Pure (w.alloc X) V) : V.heap[w.heap.size]? = some X ∧ Pure w V :=
  ⟨(h.block _ (by simp) (fun h => h)).trans (heap_alloc_new w X), Upd.trans (Upd.alloc1 (fun _ => False) _ _) h (fun _ _ h => h)⟩
theorem set4_pure8 {w0 w : World} {b : Nat} (h : Pure w0 w) (hb : w0.heap.size ≤ b) (v0 v1 v2 v3 : Value) : Pure w0 ((((w.setCell ⟨b, 0, none⟩ v0).setCell ⟨b, 1, none⟩ v1).setCell ⟨b, 2, none⟩ v2).setCell ⟨b, 3, none⟩ v3) :=
  h |>.setCell (p := ⟨b, 0, none⟩) (fun h => absurd h (by show ¬ b < w0.heap.size; omega)) _ |>.setCell (p := ⟨b, 1, none⟩) (fun h => absurd h (by show ¬ b < w0.heap.size; omega)) _ |>.setCell (p := ⟨b, 2, none⟩) (fun h => absurd h (by show ¬ b < w0.heap.size; omega)) _ |>.setCell (p := ⟨b, 3, none⟩) (fun h => absurd h (by show ¬ b < w0.heap.size; omega)) _
theorem heap_other {W : World} {sb i rb : Nat} {v : Value} (h : rb ≠ sb) : (W.setCell ⟨sb, i, none⟩ v).heap[rb]? = W.heap[rb]? := by simp [World.setCell, Array.getElem?_modify, Ne.symm h]
theorem cells3r {w : World} {k : Nat} {x0 x1 x2 : Value} {t : TypeId} (h : w.heap[k]? = some (.cells #[x0, x1, x2] t (0, 0))) : w.cell? ⟨k, 0, none⟩ = some x0 ∧ w.cell? ⟨k, 1, none⟩ = some x1 ∧ w.cell? ⟨k, 2, none⟩ = some x2 := by
  refine ⟨?_, ?_, ?_⟩ <;> simp [World.cell?, h]
theorem inAt_0 {r : Rng} {b p s : Int} (h : r.old = 0) : inAt r b p s = b + (if s < 0 then 0 else r.new) := by
  unfold inAt
  rw [if_pos h]
  by_cases hs : s < 0 <;> simp [hs]
theorem inAt_1 {r : Rng} {b p s : Int} (ho : 0 < r.old) (h : p = r.at0) : inAt r b p s = b + 0 := by
  unfold inAt
  have h1 : r.old ≠ 0 := by omega
  simp [h1, h]
theorem inAt_2 {r : Rng} {b p s : Int} (ho : 0 < r.old) (h : p = r.at0 + r.old) : inAt r b p s = b + r.new := by
  unfold inAt
  have h1 : r.old ≠ 0 := by omega
  have h2 : r.at0 + r.old ≠ r.at0 := by omega
  subst h; simp [h1, h2]
theorem inAt_3 {r : Rng} {b p s : Int} (ho : 0 < r.old) (h1 : r.at0 < p) (h2 : p < r.at0 + r.old) : inAt r b p s = b + (if s < 0 then 0 else r.new) := by
  unfold inAt
  have h3 : r.old ≠ 0 := by omega
  have h4 : p ≠ r.at0 := by omega
  have h5 : p ≠ r.at0 + r.old := by omega
  by_cases hs : s < 0 <;> simp [hs, h3, h4, h5]
set_option maxRecDepth 100000 in
set_option maxHeartbeats 4000000 in
theorem Map8_no {w : World} {A : Option Addr} {n c : Nat} {p side e : Int} {rb : Bool} (hR : ∀ W, Pure w W → Calls Tryd.prog 14 #[.slice A n c] W fun r w' => r = .returned (.bool rb) ∧ Pure W w') (hn : (rb = false ∧ e = 4) ∨ (rb = true ∧ (p < 0 ∨ 65536 < p) ∧ e = 1)) :
    Calls Tryd.prog 8 #[.slice A n c, .int .i64 p, .int .i64 side] w fun r w' => SpotE 0 e r ∧ Pure w w' := by
  have HR := As.mk hR
  clear hR
  have key : Calls Tryd.prog 8 #[.slice A n c, .int .i64 p, .int .i64 side] w fun r w' => r = .returned (.tuple #[.agg #[.int .i64 0, .bool false, .int .i64 0, .int .i64 0], .int .i64 e]) ∧ Pure w w' := by
    rcases hn with ⟨rfl, rfl⟩ | ⟨rfl, hp, rfl⟩
    · go_enter Tryd.func8, Tryd.ntmps8
      go_wp2_with (go_at_call 14; refine (HR.out _ (Upd.alloc1 _ _ _)).mono ?_; rintro r w1 ⟨rfl, hu⟩; obtain ⟨hb1, hu1⟩ := up_one hu; have HB1 := As.mk hb1; have HU1 := As.mk hu1; clear hu hb1 hu1; apply As.out)
      refine ⟨?_⟩
      have hbl : w.heap.size < w1.heap.size := (Array.getElem?_eq_some_iff.1 HB1.out).1
      have hcf : ∀ i, w1.frozen? ⟨w.heap.size, i, none⟩ = false := fun i => by simp [World.frozen?, HB1.out]
      obtain ⟨k0, k1, k2, k3⟩ := cells4 HB1.out
      go_wp2
      exact bodyPost_ret (spot_end (rb := w.heap.size) rfl _ rfl (set4 (rb := w.heap.size) HB1.out _ _ _ _)) rfl ⟨rfl, set4_pure8 HU1.out (Nat.le_refl _) _ _ _ _⟩
    · by_cases h1 : p < 0
      · clear hp
        go_enter Tryd.func8, Tryd.ntmps8
        go_wp2_with (go_at_call 14; refine (HR.out _ (Upd.alloc1 _ _ _)).mono ?_; rintro r w1 ⟨rfl, hu⟩; obtain ⟨hb1, hu1⟩ := up_one hu; have HB1 := As.mk hb1; have HU1 := As.mk hu1; clear hu hb1 hu1; apply As.out)
        refine ⟨?_⟩
        have hbl : w.heap.size < w1.heap.size := (Array.getElem?_eq_some_iff.1 HB1.out).1
        have hcf : ∀ i, w1.frozen? ⟨w.heap.size, i, none⟩ = false := fun i => by simp [World.frozen?, HB1.out]
        obtain ⟨k0, k1, k2, k3⟩ := cells4 HB1.out
        go_wp2
        exact bodyPost_ret (spot_end (rb := w.heap.size) rfl _ rfl (set4 (rb := w.heap.size) HB1.out _ _ _ _)) rfl ⟨rfl, set4_pure8 HU1.out (Nat.le_refl _) _ _ _ _⟩
      · have h2 : 65536 < p := by omega
        clear hp
        go_enter Tryd.func8, Tryd.ntmps8
        go_wp2_with (go_at_call 14; refine (HR.out _ (Upd.alloc1 _ _ _)).mono ?_; rintro r w1 ⟨rfl, hu⟩; obtain ⟨hb1, hu1⟩ := up_one hu; have HB1 := As.mk hb1; have HU1 := As.mk hu1; clear hu hb1 hu1; apply As.out)
        refine ⟨?_⟩
        have hbl : w.heap.size < w1.heap.size := (Array.getElem?_eq_some_iff.1 HB1.out).1
        have hcf : ∀ i, w1.frozen? ⟨w.heap.size, i, none⟩ = false := fun i => by simp [World.frozen?, HB1.out]
        obtain ⟨k0, k1, k2, k3⟩ := cells4 HB1.out
        go_wp2
        exact bodyPost_ret (spot_end (rb := w.heap.size) rfl _ rfl (set4 (rb := w.heap.size) HB1.out _ _ _ _)) rfl ⟨rfl, set4_pure8 HU1.out (Nat.le_refl _) _ _ _ _⟩
  exact key.mono fun r w' ⟨h1, h2⟩ => ⟨⟨_, _, _, h1⟩, h2⟩
set_option maxRecDepth 100000 in
set_option maxHeartbeats 4000000 in
theorem Map8_main {w : World} {F : Nat → Prop} {A : Option Addr} {c : Nat} {m : List Rng} {p side : Int} (hr : rngR.row w F A m) (hm : rightB' m = true) (hp : 0 ≤ p ∧ p ≤ 65536) :
    Calls Tryd.prog 8 #[.slice A m.length c, .int .i64 p, .int .i64 side] w fun r w' => SpotE (mapGo p side 0 m) 0 r ∧ Pure w w' := by
  have hrm : rightM 0 m = true ∧ m.length ≤ 4 := by
    unfold rightB' at hm
    rw [Bool.and_eq_true] at hm
    exact ⟨hm.1, of_decide_eq_true hm.2⟩
  obtain ⟨hrm, hml⟩ := hrm
  have hall := rightM_at m 0 hrm
  have HR := As.mk (fun W (hu : Pure w W) => (by
    have := Right8_calls (c := c) (Rp.row_pure hr hu) (by omega)
    rw [hm] at this
    exact this : Calls Tryd.prog 14 #[.slice A m.length c] W fun r w' => r = .returned (.bool true) ∧ Pure W w'))
  have HSH := As.mk (fun W (hu : Pure w W) (n : Nat) (hn : n ≤ m.length) => shift8_calls (c := c) (Rp.row_pure hr hu) hm hn)
  have HX := As.mk hr
  have HALL := As.mk hall
  have HDL := As.mk (dsum_le hall)
  have HRM := As.mk hrm
  have p0 : ¬ p < 0 := by omega
  have p1 : ¬ 65536 < p := by omega
  clear hr hm hrm hall
  go_enter Tryd.func8, Tryd.ntmps8
  go_wp2_with (go_at_call 14; refine (HR.out _ (Upd.alloc1 _ _ _)).mono ?_; rintro r w1 ⟨rfl, hu⟩; obtain ⟨hb1, hu1⟩ := up_one hu; have HB1 := As.mk hb1; have HU1 := As.mk hu1; clear hu hb1 hu1)
  go_loopg [8] m.length (fun g iv wr => ∃ k : Nat, k + g = m.length ∧ iv = .int .i64 (k : Nat) ∧ As (Skips m p k) ∧ As (Pure w1 wr))
  case atStart => exact ⟨0, by omega, rfl, ⟨fun j hj h => absurd h (Nat.not_lt_zero _)⟩, ⟨Upd.refl _ _⟩⟩
  case round =>
    obtain ⟨k, hk, rfl, HS, HW⟩ := hrel
    by_cases hlt : k < m.length
    · obtain ⟨g1, rfl⟩ : ∃ m, gk = m + 1 := ⟨gk - 1, by omega⟩
      obtain ⟨x, hx⟩ : ∃ x, m[k]? = some x := ⟨_, List.getElem?_eq_getElem hlt⟩
      obtain ⟨hlt', hxe⟩ := List.getElem?_eq_some_iff.1 hx
      have HXE := As.mk hxe
      obtain ⟨b, o, rfl, hFb, hbb, d0, d1, d2⟩ := rng_at (Rp.row_pure HX.out (HU1.out.trans HW.out (fun _ _ h => h))) hx
      have hb := HALL.out x (List.mem_of_getElem? hx)
      have hw1 : IntKind.i64.wrap (x.at0 + x.old) = x.at0 + x.old := IntWalk.i64_in _ (by omega)
      have HK := As.mk hk
      have HBD := As.mk hb
      clear hx hxe hk
      by_cases hpa : p < x.at0
      · clear hb
        go_wp2
        go_roundg g1
        case measure => omega
        case rel => exact ⟨k + 1, by have := HK.out; omega, by go_num, ⟨fun j hj h => by rcases Nat.lt_or_ge j k with h9 | h9; exact HS.out j hj h9; obtain rfl : j = k := (by omega); rw [HXE.out]; exact .inl hpa⟩, ⟨HW.out.alloc _⟩⟩
      · by_cases hpe : x.at0 + x.old < p
        · clear hb
          go_wp2
          go_roundg g1
          case measure => omega
          case rel => exact ⟨k + 1, by have := HK.out; omega, by go_num, ⟨fun j hj h => by rcases Nat.lt_or_ge j k with h9 | h9; exact HS.out j hj h9; obtain rfl : j = k := (by omega); rw [HXE.out]; exact .inr hpe⟩, ⟨HW.out.alloc _⟩⟩
        · have HV := As.mk (show mapGo p side 0 m = inAt x (x.at0 + dsum m k) p side by
            rw [refmap_at HRM.out hlt' HS.out (by rw [HXE.out]; omega) (by rw [HXE.out]; omega), HXE.out])
          have hdl := HDL.out k (by omega)
          have HSK := As.mk (fun W (hu : Pure w W) => HSH.out W hu k (by omega))
          generalize dsum m k = dk at *
          have hw2 : IntKind.i64.wrap (x.at0 + dk) = x.at0 + dk := IntWalk.i64_in _ (by omega)
          have hw3 : IntKind.i64.wrap (x.at0 + dk + x.new) = x.at0 + dk + x.new := IntWalk.i64_in _ (by omega)
          have hw4 : IntKind.i64.wrap (p - x.at0) = p - x.at0 := IntWalk.i64_in _ (by omega)
          rcases (by omega : x.old = 0 ∨ (0 < x.old ∧ p = x.at0) ∨ (0 < x.old ∧ p = x.at0 + x.old) ∨ (0 < x.old ∧ x.at0 < p ∧ p < x.at0 + x.old)) with hK | hK | hK | hK
          · by_cases hsd : side < 0
            · have g1 : ¬ 0 ≤ side := by omega
              have f1 : ¬ 0 < x.old := by omega
              have f2 : (p == x.at0) = true := by simp; omega
              have f3 : (p == x.at0 + x.old) = true := by simp; omega
              have f4 : decide (x.at0 < p) = false := by simp; omega
              have HVV := As.mk (show mapGo p side 0 m = x.at0 + dk by have h9 := HV.out; rw [inAt_0 hK, if_pos hsd] at h9; omega)
              clear hb hK HV hdl
              go_wp2
              have HRB0 := As.mk (heap_alloc_new wr (.cells #[.int .i64 x.at0, .int .i64 x.old, .int .i64 x.new] 47))
              have HU0 := As.mk (HW.out.alloc (.cells #[.int .i64 x.at0, .int .i64 x.old, .int .i64 x.new] 47))
              have HB0 := As.mk ((HU0.out.block w.heap.size (lt_of_block HB1.out) (fun h => h)).trans HB1.out)
              have HL0 := As.mk (show w.heap.size < wr.heap.size from lt_of_block ((HW.out.block w.heap.size (lt_of_block HB1.out) (fun h => h)).trans HB1.out))
              have HUW0 := As.mk (HU1.out.trans HU0.out (fun _ _ h => h))
              generalize wr.alloc (.cells #[.int .i64 x.at0, .int .i64 x.old, .int .i64 x.new] 47) = v0 at *
              obtain ⟨r0, r1, r2⟩ := cells3r HRB0.out
              have HK8 := As.mk (fun v (hu : Pure v0 v) => (cells3r ((hu.block wr.heap.size (lt_of_block HRB0.out) (fun h => h)).trans HRB0.out) : (fun v => v.cell? ⟨wr.heap.size, 0, none⟩ = some (.int .i64 x.at0) ∧ v.cell? ⟨wr.heap.size, 1, none⟩ = some (.int .i64 x.old) ∧ v.cell? ⟨wr.heap.size, 2, none⟩ = some (.int .i64 x.new)) v))
              have HD0 := As.mk (show Pure v0 v0.drew from (Upd.refl _ _).drew)
              refine wp_region_T (P := Tryd.prog) (fun v => v.cell? ⟨wr.heap.size, 0, none⟩ = some (.int .i64 x.at0) ∧ v.cell? ⟨wr.heap.size, 1, none⟩ = some (.int .i64 x.old) ∧ v.cell? ⟨wr.heap.size, 2, none⟩ = some (.int .i64 x.new)) 22 (by kernel_rfl) ?_ (fun hHeld => ?_)
              · with_reducible (first | exact HK8.out _ HD0.out | exact HK8.out _ HP5.out | exact HK8.out _ (HP5.out.alloc _) | exact HK8.out _ ((Upd.refl _ v0).alloc _).drew | exact HK8.out _ (set4_pure8 HP5.out (Nat.le_refl _) _ _ _ _))
              refine zT 0 ?_
              refine zT 1 ?_
              refine zT 2 ?_
              refine zT 3 ?_
              (try simp only [Act.put, List.setIfInBounds_toArray, List.set_cons_zero, List.set_cons_succ])
              refine zT 6 ?_
              refine zT 7 ?_
              refine zT 8 ?_
              refine zT 9 ?_
              (try simp only [Act.put, List.setIfInBounds_toArray, List.set_cons_zero, List.set_cons_succ])
              refine zT 15 ?_
              refine zT 16 ?_
              refine zT 17 ?_
              refine zT 18 ?_
              (try simp only [Act.put, List.setIfInBounds_toArray, List.set_cons_zero, List.set_cons_succ])
              refine zT 19 ?_
              refine wpAnyT_two (i := 4) (j := 21) (o1 := { dst := (some 72), op := (Go.Op.call { callee := (Go.Callee.value (Go.Operand.func 15)), args := #[(Go.Operand.tmp 70), (Go.Operand.tmp 71)], argTypes := #[22, 3] }), type := 3, pos := "ref.go:57", after := #[{ on := 2, ground := Go.Ground.data }, { on := 3, ground := Go.Ground.data }], guard := none }) (o2 := { dst := (some 12), op := (Go.Op.alloc 31), type := 0, pos := "ref.go:57", after := #[], guard := none }) (by kernel_rfl) rfl rfl (fun K hK => ?rw1a) (fun K hK => ?rw1b)
              case' rw1a =>
                go_simp
                first | (go_at_call 15; with_reducible refine (HSK.out v0.drew (HUW0.out.trans HD0.out (fun _ _ h => h))).mono ?_; rintro r w5 ⟨rfl, hu⟩; have HP5 := As.mk (HD0.out.trans hu (fun _ _ h => h)); clear hu) | (go_at_call 15; refine (HSK.out _ ((HUW0.out.alloc _).drew)).mono ?_; rintro r w5 ⟨rfl, hu⟩; obtain ⟨hs5, hu5⟩ := up_one ((Upd.refl (fun _ => False) (v0.alloc _)).drew.trans hu (fun _ _ h => h)); have HS5 := As.mk hs5; have HP5 := As.mk hu5; have hbl5 : v0.heap.size < w5.heap.size := lt_of_block HS5.out; have hcf5 : ∀ i, w5.frozen? ⟨v0.heap.size, i, none⟩ = false := (fun i => by simp [World.frozen?, HS5.out]); obtain ⟨k0, k1, k2, k3⟩ := cells4 HS5.out; clear hu hs5 hu5)
                refine hK.out _ _ (fun _ => by with_reducible (first | exact HK8.out _ HD0.out | exact HK8.out _ HP5.out | exact HK8.out _ (HP5.out.alloc _) | exact HK8.out _ ((Upd.refl _ v0).alloc _).drew | exact HK8.out _ (set4_pure8 HP5.out (Nat.le_refl _) _ _ _ _))) (fun hHeld => ?_)
                replace hHeld := hHeld (by decide)
                clear hK K
                (try simp only [Act.put, List.setIfInBounds_toArray, List.set_cons_zero, List.set_cons_succ])
                refine zT 5 ?_
                refine zT 10 ?_
                (try simp only [Act.put, List.setIfInBounds_toArray, List.set_cons_zero, List.set_cons_succ])
                refine sT 11 ?_
                refine sT 12 ?_
                refine sT 13 ?_
                refine zT 14 ?_
                (try simp only [Act.put, List.setIfInBounds_toArray, List.set_cons_zero, List.set_cons_succ])
                refine zT 20 ?_
                refine oT 21 (fun K hK => ?_)
                go_simp
                refine hK.out _ _ (fun _ => by with_reducible (first | exact HK8.out _ HD0.out | exact HK8.out _ HP5.out | exact HK8.out _ (HP5.out.alloc _) | exact HK8.out _ ((Upd.refl _ v0).alloc _).drew | exact HK8.out _ (set4_pure8 HP5.out (Nat.le_refl _) _ _ _ _))) (fun hHeld => ?_)
                replace hHeld := hHeld (by decide)
                clear hK K
                (try simp only [Act.put, List.setIfInBounds_toArray, List.set_cons_zero, List.set_cons_succ])
                refine oT 22 (fun K hK => ?_)
                go_simp
                refine hK.out _ _ (fun h => absurd rfl h) (fun hHeld => ?_)
                clear hK K
                (try simp only [Act.put, List.setIfInBounds_toArray, List.set_cons_zero, List.set_cons_succ])
                refine wpAnyT_done (by kernel_rfl) ?_ _
              case' rw1b =>
                go_simp
                refine hK.out _ _ (fun _ => by with_reducible (first | exact HK8.out _ HD0.out | exact HK8.out _ HP5.out | exact HK8.out _ (HP5.out.alloc _) | exact HK8.out _ ((Upd.refl _ v0).alloc _).drew | exact HK8.out _ (set4_pure8 HP5.out (Nat.le_refl _) _ _ _ _))) (fun hHeld => ?_)
                replace hHeld := hHeld (by decide)
                clear hK K
                (try simp only [Act.put, List.setIfInBounds_toArray, List.set_cons_zero, List.set_cons_succ])
                refine oT 4 (fun K hK => ?_)
                go_simp
                first | (go_at_call 15; with_reducible refine (HSK.out v0.drew (HUW0.out.trans HD0.out (fun _ _ h => h))).mono ?_; rintro r w5 ⟨rfl, hu⟩; have HP5 := As.mk (HD0.out.trans hu (fun _ _ h => h)); clear hu) | (go_at_call 15; refine (HSK.out _ ((HUW0.out.alloc _).drew)).mono ?_; rintro r w5 ⟨rfl, hu⟩; obtain ⟨hs5, hu5⟩ := up_one ((Upd.refl (fun _ => False) (v0.alloc _)).drew.trans hu (fun _ _ h => h)); have HS5 := As.mk hs5; have HP5 := As.mk hu5; have hbl5 : v0.heap.size < w5.heap.size := lt_of_block HS5.out; have hcf5 : ∀ i, w5.frozen? ⟨v0.heap.size, i, none⟩ = false := (fun i => by simp [World.frozen?, HS5.out]); obtain ⟨k0, k1, k2, k3⟩ := cells4 HS5.out; clear hu hs5 hu5)
                refine hK.out _ _ (fun _ => by with_reducible (first | exact HK8.out _ HD0.out | exact HK8.out _ HP5.out | exact HK8.out _ (HP5.out.alloc _) | exact HK8.out _ ((Upd.refl _ v0).alloc _).drew | exact HK8.out _ (set4_pure8 HP5.out (Nat.le_refl _) _ _ _ _))) (fun hHeld => ?_)
                replace hHeld := hHeld (by decide)
                clear hK K
                (try simp only [Act.put, List.setIfInBounds_toArray, List.set_cons_zero, List.set_cons_succ])
                refine zT 5 ?_
                refine zT 10 ?_
                refine sT 11 ?_
                (try simp only [Act.put, List.setIfInBounds_toArray, List.set_cons_zero, List.set_cons_succ])
                refine sT 12 ?_
                refine sT 13 ?_
                refine zT 14 ?_
                refine zT 20 ?_
                (try simp only [Act.put, List.setIfInBounds_toArray, List.set_cons_zero, List.set_cons_succ])
                refine oT 22 (fun K hK => ?_)
                go_simp
                refine hK.out _ _ (fun h => absurd rfl h) (fun hHeld => ?_)
                clear hK K
                (try simp only [Act.put, List.setIfInBounds_toArray, List.set_cons_zero, List.set_cons_succ])
                refine wpAnyT_done (by kernel_rfl) ?_ _
              rotate_left
              · have HS9 := As.mk (heap_alloc_new w5 (.cells #[.int .i64 (x.at0 + dk), .bool false, .int .i64 (k : Nat), .int .i64 (p - x.at0)] 31))
                have HU9 := As.mk (HP5.out.alloc (.cells #[.int .i64 (x.at0 + dk), .bool false, .int .i64 (k : Nat), .int .i64 (p - x.at0)] 31))
                have HL9 := As.mk (show wr.heap.size < w5.heap.size from Nat.lt_of_lt_of_le (lt_of_block HRB0.out) HP5.out.size)
                iterate 6 (try clear hHeld)
                generalize w5.alloc (.cells #[.int .i64 (x.at0 + dk), .bool false, .int .i64 (k : Nat), .int .i64 (p - x.at0)] 31) = v9 at *
                generalize w5.heap.size = sb at *
                have HB9 := As.mk ((HU9.out.block w.heap.size (lt_of_block HB0.out) (fun h => h)).trans HB0.out)
                have HR9 := As.mk ((HU9.out.block wr.heap.size (lt_of_block HRB0.out) (fun h => h)).trans HRB0.out)
                have HUW9 := As.mk (HUW0.out.trans HU9.out (fun _ _ h => h))
                have hne1 : w.heap.size ≠ sb := by have := HL0.out; have := HL9.out; omega
                have hne2 : wr.heap.size ≠ sb := by have := HL9.out; omega
                have hb9 : w.heap.size < v9.heap.size := lt_of_block HB9.out
                have hcf9 : ∀ i, v9.frozen? ⟨w.heap.size, i, none⟩ = false := fun i => by simp [World.frozen?, HB9.out]
                have hs9 : sb < v9.heap.size := lt_of_block HS9.out
                have hcs9 : ∀ i, v9.frozen? ⟨sb, i, none⟩ = false := fun i => by simp [World.frozen?, HS9.out]
                have hr9 : wr.heap.size < v9.heap.size := lt_of_block HR9.out
                obtain ⟨s0, s1, s2, s3⟩ := cells4 HS9.out
                obtain ⟨z0, z1, z2, z3⟩ := cells4 HB9.out
                obtain ⟨y0, y1, y2⟩ := cells3r HR9.out
                clear r0 r1 r2
                go_wp2
                exact bodyPost_ret (spot_end (rb := w.heap.size) rfl _ rfl (set4 (rb := w.heap.size) (by (try simp only [heap_other hne1]); exact HB9.out) _ _ _ _)) rfl ⟨⟨_, _, _, by rw [HVV.out]; rfl⟩, set4_pure8 (by repeat (first | exact HUW9.out | refine Upd.setCell ?_ (fun h => absurd h (by show ¬ sb < w.heap.size; have := HL0.out; have := HL9.out; omega)) _)) (Nat.le_refl _) _ _ _ _⟩
              · have HS9 := As.mk (set4 HS5.out (.int .i64 (x.at0 + dk)) (.bool false) (.int .i64 (k : Nat)) (.int .i64 (p - x.at0)))
                have HU9 := As.mk (set4_pure8 HP5.out (Nat.le_refl _) (.int .i64 (x.at0 + dk)) (.bool false) (.int .i64 (k : Nat)) (.int .i64 (p - x.at0)))
                have HL9 := As.mk (show wr.heap.size < v0.heap.size from lt_of_block HRB0.out)
                iterate 6 (try clear hHeld)
                clear k0 k1 k2 k3 hbl5 hcf5
                generalize ((((w5.setCell ⟨v0.heap.size, 0, none⟩ (.int .i64 (x.at0 + dk))).setCell ⟨v0.heap.size, 1, none⟩ (.bool false)).setCell ⟨v0.heap.size, 2, none⟩ (.int .i64 (k : Nat))).setCell ⟨v0.heap.size, 3, none⟩ (.int .i64 (p - x.at0))) = v9 at *
                generalize v0.heap.size = sb at *
                have HB9 := As.mk ((HU9.out.block w.heap.size (lt_of_block HB0.out) (fun h => h)).trans HB0.out)
                have HR9 := As.mk ((HU9.out.block wr.heap.size (lt_of_block HRB0.out) (fun h => h)).trans HRB0.out)
                have HUW9 := As.mk (HUW0.out.trans HU9.out (fun _ _ h => h))
                have hne1 : w.heap.size ≠ sb := by have := HL0.out; have := HL9.out; omega
                have hne2 : wr.heap.size ≠ sb := by have := HL9.out; omega
                have hb9 : w.heap.size < v9.heap.size := lt_of_block HB9.out
                have hcf9 : ∀ i, v9.frozen? ⟨w.heap.size, i, none⟩ = false := fun i => by simp [World.frozen?, HB9.out]
                have hs9 : sb < v9.heap.size := lt_of_block HS9.out
                have hcs9 : ∀ i, v9.frozen? ⟨sb, i, none⟩ = false := fun i => by simp [World.frozen?, HS9.out]
                have hr9 : wr.heap.size < v9.heap.size := lt_of_block HR9.out
                obtain ⟨s0, s1, s2, s3⟩ := cells4 HS9.out
                obtain ⟨z0, z1, z2, z3⟩ := cells4 HB9.out
                obtain ⟨y0, y1, y2⟩ := cells3r HR9.out
                clear r0 r1 r2
                go_wp2
                exact bodyPost_ret (spot_end (rb := w.heap.size) rfl _ rfl (set4 (rb := w.heap.size) (by (try simp only [heap_other hne1]); exact HB9.out) _ _ _ _)) rfl ⟨⟨_, _, _, by rw [HVV.out]; rfl⟩, set4_pure8 (by repeat (first | exact HUW9.out | refine Upd.setCell ?_ (fun h => absurd h (by show ¬ sb < w.heap.size; have := HL0.out; have := HL9.out; omega)) _)) (Nat.le_refl _) _ _ _ _⟩
            · have g1 : 0 ≤ side := by omega
              have f1 : ¬ 0 < x.old := by omega
              have f2 : (p == x.at0) = true := by simp; omega
              have f3 : (p == x.at0 + x.old) = true := by simp; omega
              have f4 : decide (x.at0 < p) = false := by simp; omega
              have HVV := As.mk (show mapGo p side 0 m = x.at0 + dk + x.new by have h9 := HV.out; rw [inAt_0 hK, if_neg hsd] at h9; omega)
              clear hb hK HV hdl
              go_wp2
              have HRB0 := As.mk (heap_alloc_new wr (.cells #[.int .i64 x.at0, .int .i64 x.old, .int .i64 x.new] 47))
              have HU0 := As.mk (HW.out.alloc (.cells #[.int .i64 x.at0, .int .i64 x.old, .int .i64 x.new] 47))
              have HB0 := As.mk ((HU0.out.block w.heap.size (lt_of_block HB1.out) (fun h => h)).trans HB1.out)
              have HL0 := As.mk (show w.heap.size < wr.heap.size from lt_of_block ((HW.out.block w.heap.size (lt_of_block HB1.out) (fun h => h)).trans HB1.out))
              have HUW0 := As.mk (HU1.out.trans HU0.out (fun _ _ h => h))
              generalize wr.alloc (.cells #[.int .i64 x.at0, .int .i64 x.old, .int .i64 x.new] 47) = v0 at *
              obtain ⟨r0, r1, r2⟩ := cells3r HRB0.out
              have HK8 := As.mk (fun v (hu : Pure v0 v) => (cells3r ((hu.block wr.heap.size (lt_of_block HRB0.out) (fun h => h)).trans HRB0.out) : (fun v => v.cell? ⟨wr.heap.size, 0, none⟩ = some (.int .i64 x.at0) ∧ v.cell? ⟨wr.heap.size, 1, none⟩ = some (.int .i64 x.old) ∧ v.cell? ⟨wr.heap.size, 2, none⟩ = some (.int .i64 x.new)) v))
              have HD0 := As.mk (show Pure v0 v0.drew from (Upd.refl _ _).drew)
              refine wp_region_T (P := Tryd.prog) (fun v => v.cell? ⟨wr.heap.size, 0, none⟩ = some (.int .i64 x.at0) ∧ v.cell? ⟨wr.heap.size, 1, none⟩ = some (.int .i64 x.old) ∧ v.cell? ⟨wr.heap.size, 2, none⟩ = some (.int .i64 x.new)) 22 (by kernel_rfl) ?_ (fun hHeld => ?_)
              · with_reducible (first | exact HK8.out _ HD0.out | exact HK8.out _ HP5.out | exact HK8.out _ (HP5.out.alloc _) | exact HK8.out _ ((Upd.refl _ v0).alloc _).drew | exact HK8.out _ (set4_pure8 HP5.out (Nat.le_refl _) _ _ _ _))
              refine zT 0 ?_
              refine zT 1 ?_
              refine zT 2 ?_
              (try simp only [Act.put, List.setIfInBounds_toArray, List.set_cons_zero, List.set_cons_succ])
              refine zT 3 ?_
              refine zT 6 ?_
              refine zT 7 ?_
              refine zT 8 ?_
              (try simp only [Act.put, List.setIfInBounds_toArray, List.set_cons_zero, List.set_cons_succ])
              refine zT 9 ?_
              refine zT 15 ?_
              refine zT 16 ?_
              refine zT 17 ?_
              (try simp only [Act.put, List.setIfInBounds_toArray, List.set_cons_zero, List.set_cons_succ])
              refine zT 18 ?_
              refine zT 19 ?_
              refine wpAnyT_two (i := 4) (j := 21) (o1 := { dst := (some 72), op := (Go.Op.call { callee := (Go.Callee.value (Go.Operand.func 15)), args := #[(Go.Operand.tmp 70), (Go.Operand.tmp 71)], argTypes := #[22, 3] }), type := 3, pos := "ref.go:57", after := #[{ on := 2, ground := Go.Ground.data }, { on := 3, ground := Go.Ground.data }], guard := none }) (o2 := { dst := (some 12), op := (Go.Op.alloc 31), type := 0, pos := "ref.go:57", after := #[], guard := none }) (by kernel_rfl) rfl rfl (fun K hK => ?rw2a) (fun K hK => ?rw2b)
              case' rw2a =>
                go_simp
                first | (go_at_call 15; with_reducible refine (HSK.out v0.drew (HUW0.out.trans HD0.out (fun _ _ h => h))).mono ?_; rintro r w5 ⟨rfl, hu⟩; have HP5 := As.mk (HD0.out.trans hu (fun _ _ h => h)); clear hu) | (go_at_call 15; refine (HSK.out _ ((HUW0.out.alloc _).drew)).mono ?_; rintro r w5 ⟨rfl, hu⟩; obtain ⟨hs5, hu5⟩ := up_one ((Upd.refl (fun _ => False) (v0.alloc _)).drew.trans hu (fun _ _ h => h)); have HS5 := As.mk hs5; have HP5 := As.mk hu5; have hbl5 : v0.heap.size < w5.heap.size := lt_of_block HS5.out; have hcf5 : ∀ i, w5.frozen? ⟨v0.heap.size, i, none⟩ = false := (fun i => by simp [World.frozen?, HS5.out]); obtain ⟨k0, k1, k2, k3⟩ := cells4 HS5.out; clear hu hs5 hu5)
                refine hK.out _ _ (fun _ => by with_reducible (first | exact HK8.out _ HD0.out | exact HK8.out _ HP5.out | exact HK8.out _ (HP5.out.alloc _) | exact HK8.out _ ((Upd.refl _ v0).alloc _).drew | exact HK8.out _ (set4_pure8 HP5.out (Nat.le_refl _) _ _ _ _))) (fun hHeld => ?_)
                replace hHeld := hHeld (by decide)
                clear hK K
                (try simp only [Act.put, List.setIfInBounds_toArray, List.set_cons_zero, List.set_cons_succ])
                refine zT 5 ?_
                (try simp only [Act.put, List.setIfInBounds_toArray, List.set_cons_zero, List.set_cons_succ])
                refine zT 10 ?_
                refine sT 11 ?_
                refine sT 12 ?_
                refine sT 13 ?_
                (try simp only [Act.put, List.setIfInBounds_toArray, List.set_cons_zero, List.set_cons_succ])
                refine zT 14 ?_
                refine zT 20 ?_
                refine oT 21 (fun K hK => ?_)
                go_simp
                refine hK.out _ _ (fun _ => by with_reducible (first | exact HK8.out _ HD0.out | exact HK8.out _ HP5.out | exact HK8.out _ (HP5.out.alloc _) | exact HK8.out _ ((Upd.refl _ v0).alloc _).drew | exact HK8.out _ (set4_pure8 HP5.out (Nat.le_refl _) _ _ _ _))) (fun hHeld => ?_)
                replace hHeld := hHeld (by decide)
                clear hK K
                (try simp only [Act.put, List.setIfInBounds_toArray, List.set_cons_zero, List.set_cons_succ])
                refine oT 22 (fun K hK => ?_)
                go_simp
                refine hK.out _ _ (fun h => absurd rfl h) (fun hHeld => ?_)
                clear hK K
                (try simp only [Act.put, List.setIfInBounds_toArray, List.set_cons_zero, List.set_cons_succ])
                refine wpAnyT_done (by kernel_rfl) ?_ _
              case' rw2b =>
                go_simp
                refine hK.out _ _ (fun _ => by with_reducible (first | exact HK8.out _ HD0.out | exact HK8.out _ HP5.out | exact HK8.out _ (HP5.out.alloc _) | exact HK8.out _ ((Upd.refl _ v0).alloc _).drew | exact HK8.out _ (set4_pure8 HP5.out (Nat.le_refl _) _ _ _ _))) (fun hHeld => ?_)
                replace hHeld := hHeld (by decide)
                clear hK K
                (try simp only [Act.put, List.setIfInBounds_toArray, List.set_cons_zero, List.set_cons_succ])
                refine oT 4 (fun K hK => ?_)
                go_simp
                first | (go_at_call 15; with_reducible refine (HSK.out v0.drew (HUW0.out.trans HD0.out (fun _ _ h => h))).mono ?_; rintro r w5 ⟨rfl, hu⟩; have HP5 := As.mk (HD0.out.trans hu (fun _ _ h => h)); clear hu) | (go_at_call 15; refine (HSK.out _ ((HUW0.out.alloc _).drew)).mono ?_; rintro r w5 ⟨rfl, hu⟩; obtain ⟨hs5, hu5⟩ := up_one ((Upd.refl (fun _ => False) (v0.alloc _)).drew.trans hu (fun _ _ h => h)); have HS5 := As.mk hs5; have HP5 := As.mk hu5; have hbl5 : v0.heap.size < w5.heap.size := lt_of_block HS5.out; have hcf5 : ∀ i, w5.frozen? ⟨v0.heap.size, i, none⟩ = false := (fun i => by simp [World.frozen?, HS5.out]); obtain ⟨k0, k1, k2, k3⟩ := cells4 HS5.out; clear hu hs5 hu5)
                refine hK.out _ _ (fun _ => by with_reducible (first | exact HK8.out _ HD0.out | exact HK8.out _ HP5.out | exact HK8.out _ (HP5.out.alloc _) | exact HK8.out _ ((Upd.refl _ v0).alloc _).drew | exact HK8.out _ (set4_pure8 HP5.out (Nat.le_refl _) _ _ _ _))) (fun hHeld => ?_)
                replace hHeld := hHeld (by decide)
                clear hK K
                (try simp only [Act.put, List.setIfInBounds_toArray, List.set_cons_zero, List.set_cons_succ])
                refine zT 5 ?_
                refine zT 10 ?_
                (try simp only [Act.put, List.setIfInBounds_toArray, List.set_cons_zero, List.set_cons_succ])
                refine sT 11 ?_
                refine sT 12 ?_
                refine sT 13 ?_
                refine zT 14 ?_
                (try simp only [Act.put, List.setIfInBounds_toArray, List.set_cons_zero, List.set_cons_succ])
                refine zT 20 ?_
                refine oT 22 (fun K hK => ?_)
                go_simp
                refine hK.out _ _ (fun h => absurd rfl h) (fun hHeld => ?_)
                clear hK K
                (try simp only [Act.put, List.setIfInBounds_toArray, List.set_cons_zero, List.set_cons_succ])
                refine wpAnyT_done (by kernel_rfl) ?_ _
              rotate_left
              · have HS9 := As.mk (heap_alloc_new w5 (.cells #[.int .i64 (x.at0 + dk), .bool false, .int .i64 (k : Nat), .int .i64 (p - x.at0)] 31))
                have HU9 := As.mk (HP5.out.alloc (.cells #[.int .i64 (x.at0 + dk), .bool false, .int .i64 (k : Nat), .int .i64 (p - x.at0)] 31))
                have HL9 := As.mk (show wr.heap.size < w5.heap.size from Nat.lt_of_lt_of_le (lt_of_block HRB0.out) HP5.out.size)
                iterate 6 (try clear hHeld)
                generalize w5.alloc (.cells #[.int .i64 (x.at0 + dk), .bool false, .int .i64 (k : Nat), .int .i64 (p - x.at0)] 31) = v9 at *
                generalize w5.heap.size = sb at *
                have HB9 := As.mk ((HU9.out.block w.heap.size (lt_of_block HB0.out) (fun h => h)).trans HB0.out)
                have HR9 := As.mk ((HU9.out.block wr.heap.size (lt_of_block HRB0.out) (fun h => h)).trans HRB0.out)
                have HUW9 := As.mk (HUW0.out.trans HU9.out (fun _ _ h => h))
                have hne1 : w.heap.size ≠ sb := by have := HL0.out; have := HL9.out; omega
                have hne2 : wr.heap.size ≠ sb := by have := HL9.out; omega
                have hb9 : w.heap.size < v9.heap.size := lt_of_block HB9.out
                have hcf9 : ∀ i, v9.frozen? ⟨w.heap.size, i, none⟩ = false := fun i => by simp [World.frozen?, HB9.out]
                have hs9 : sb < v9.heap.size := lt_of_block HS9.out
                have hcs9 : ∀ i, v9.frozen? ⟨sb, i, none⟩ = false := fun i => by simp [World.frozen?, HS9.out]
                have hr9 : wr.heap.size < v9.heap.size := lt_of_block HR9.out
                obtain ⟨s0, s1, s2, s3⟩ := cells4 HS9.out
                obtain ⟨z0, z1, z2, z3⟩ := cells4 HB9.out
                obtain ⟨y0, y1, y2⟩ := cells3r HR9.out
                clear r0 r1 r2
                go_wp2
                exact bodyPost_ret (spot_end (rb := w.heap.size) rfl _ rfl (set4 (rb := w.heap.size) (by (try simp only [heap_other hne1]); exact HB9.out) _ _ _ _)) rfl ⟨⟨_, _, _, by rw [HVV.out]; rfl⟩, set4_pure8 (by repeat (first | exact HUW9.out | refine Upd.setCell ?_ (fun h => absurd h (by show ¬ sb < w.heap.size; have := HL0.out; have := HL9.out; omega)) _)) (Nat.le_refl _) _ _ _ _⟩
              · have HS9 := As.mk (set4 HS5.out (.int .i64 (x.at0 + dk)) (.bool false) (.int .i64 (k : Nat)) (.int .i64 (p - x.at0)))
                have HU9 := As.mk (set4_pure8 HP5.out (Nat.le_refl _) (.int .i64 (x.at0 + dk)) (.bool false) (.int .i64 (k : Nat)) (.int .i64 (p - x.at0)))
                have HL9 := As.mk (show wr.heap.size < v0.heap.size from lt_of_block HRB0.out)
                iterate 6 (try clear hHeld)
                clear k0 k1 k2 k3 hbl5 hcf5
                generalize ((((w5.setCell ⟨v0.heap.size, 0, none⟩ (.int .i64 (x.at0 + dk))).setCell ⟨v0.heap.size, 1, none⟩ (.bool false)).setCell ⟨v0.heap.size, 2, none⟩ (.int .i64 (k : Nat))).setCell ⟨v0.heap.size, 3, none⟩ (.int .i64 (p - x.at0))) = v9 at *
                generalize v0.heap.size = sb at *
                have HB9 := As.mk ((HU9.out.block w.heap.size (lt_of_block HB0.out) (fun h => h)).trans HB0.out)
                have HR9 := As.mk ((HU9.out.block wr.heap.size (lt_of_block HRB0.out) (fun h => h)).trans HRB0.out)
                have HUW9 := As.mk (HUW0.out.trans HU9.out (fun _ _ h => h))
                have hne1 : w.heap.size ≠ sb := by have := HL0.out; have := HL9.out; omega
                have hne2 : wr.heap.size ≠ sb := by have := HL9.out; omega
                have hb9 : w.heap.size < v9.heap.size := lt_of_block HB9.out
                have hcf9 : ∀ i, v9.frozen? ⟨w.heap.size, i, none⟩ = false := fun i => by simp [World.frozen?, HB9.out]
                have hs9 : sb < v9.heap.size := lt_of_block HS9.out
                have hcs9 : ∀ i, v9.frozen? ⟨sb, i, none⟩ = false := fun i => by simp [World.frozen?, HS9.out]
                have hr9 : wr.heap.size < v9.heap.size := lt_of_block HR9.out
                obtain ⟨s0, s1, s2, s3⟩ := cells4 HS9.out
                obtain ⟨z0, z1, z2, z3⟩ := cells4 HB9.out
                obtain ⟨y0, y1, y2⟩ := cells3r HR9.out
                clear r0 r1 r2
                go_wp2
                exact bodyPost_ret (spot_end (rb := w.heap.size) rfl _ rfl (set4 (rb := w.heap.size) (by (try simp only [heap_other hne1]); exact HB9.out) _ _ _ _)) rfl ⟨⟨_, _, _, by rw [HVV.out]; rfl⟩, set4_pure8 (by repeat (first | exact HUW9.out | refine Upd.setCell ?_ (fun h => absurd h (by show ¬ sb < w.heap.size; have := HL0.out; have := HL9.out; omega)) _)) (Nat.le_refl _) _ _ _ _⟩
          · by_cases hsd : side < 0
            · have g1 : ¬ 0 ≤ side := by omega
              have f1 : 0 < x.old := by omega
              have f2 : (p == x.at0) = true := by simp; omega
              have f3 : (p == x.at0 + x.old) = false := by simp; omega
              have f4 : decide (x.at0 < p) = false := by simp; omega
              have HVV := As.mk (show mapGo p side 0 m = x.at0 + dk by have h9 := HV.out; rw [inAt_1 hK.1 hK.2] at h9; omega)
              clear hb hK HV hdl
              go_wp2
              have HRB0 := As.mk (heap_alloc_new wr (.cells #[.int .i64 x.at0, .int .i64 x.old, .int .i64 x.new] 47))
              have HU0 := As.mk (HW.out.alloc (.cells #[.int .i64 x.at0, .int .i64 x.old, .int .i64 x.new] 47))
              have HB0 := As.mk ((HU0.out.block w.heap.size (lt_of_block HB1.out) (fun h => h)).trans HB1.out)
              have HL0 := As.mk (show w.heap.size < wr.heap.size from lt_of_block ((HW.out.block w.heap.size (lt_of_block HB1.out) (fun h => h)).trans HB1.out))
              have HUW0 := As.mk (HU1.out.trans HU0.out (fun _ _ h => h))
              generalize wr.alloc (.cells #[.int .i64 x.at0, .int .i64 x.old, .int .i64 x.new] 47) = v0 at *
              obtain ⟨r0, r1, r2⟩ := cells3r HRB0.out
              have HK8 := As.mk (fun v (hu : Pure v0 v) => (cells3r ((hu.block wr.heap.size (lt_of_block HRB0.out) (fun h => h)).trans HRB0.out) : (fun v => v.cell? ⟨wr.heap.size, 0, none⟩ = some (.int .i64 x.at0) ∧ v.cell? ⟨wr.heap.size, 1, none⟩ = some (.int .i64 x.old) ∧ v.cell? ⟨wr.heap.size, 2, none⟩ = some (.int .i64 x.new)) v))
              have HD0 := As.mk (show Pure v0 v0.drew from (Upd.refl _ _).drew)
              refine wp_region_T (P := Tryd.prog) (fun v => v.cell? ⟨wr.heap.size, 0, none⟩ = some (.int .i64 x.at0) ∧ v.cell? ⟨wr.heap.size, 1, none⟩ = some (.int .i64 x.old) ∧ v.cell? ⟨wr.heap.size, 2, none⟩ = some (.int .i64 x.new)) 22 (by kernel_rfl) ?_ (fun hHeld => ?_)
              · with_reducible (first | exact HK8.out _ HD0.out | exact HK8.out _ HP5.out | exact HK8.out _ (HP5.out.alloc _) | exact HK8.out _ ((Upd.refl _ v0).alloc _).drew | exact HK8.out _ (set4_pure8 HP5.out (Nat.le_refl _) _ _ _ _))
              refine zT 0 ?_
              refine zT 1 ?_
              (try simp only [Act.put, List.setIfInBounds_toArray, List.set_cons_zero, List.set_cons_succ])
              refine zT 2 ?_
              refine zT 3 ?_
              refine zT 6 ?_
              refine zT 7 ?_
              (try simp only [Act.put, List.setIfInBounds_toArray, List.set_cons_zero, List.set_cons_succ])
              refine zT 8 ?_
              refine zT 9 ?_
              refine zT 15 ?_
              refine zT 16 ?_
              (try simp only [Act.put, List.setIfInBounds_toArray, List.set_cons_zero, List.set_cons_succ])
              refine zT 17 ?_
              refine zT 18 ?_
              refine zT 19 ?_
              refine wpAnyT_two (i := 4) (j := 21) (o1 := { dst := (some 72), op := (Go.Op.call { callee := (Go.Callee.value (Go.Operand.func 15)), args := #[(Go.Operand.tmp 70), (Go.Operand.tmp 71)], argTypes := #[22, 3] }), type := 3, pos := "ref.go:57", after := #[{ on := 2, ground := Go.Ground.data }, { on := 3, ground := Go.Ground.data }], guard := none }) (o2 := { dst := (some 12), op := (Go.Op.alloc 31), type := 0, pos := "ref.go:57", after := #[], guard := none }) (by kernel_rfl) rfl rfl (fun K hK => ?rw3a) (fun K hK => ?rw3b)
              case' rw3a =>
                go_simp
                first | (go_at_call 15; with_reducible refine (HSK.out v0.drew (HUW0.out.trans HD0.out (fun _ _ h => h))).mono ?_; rintro r w5 ⟨rfl, hu⟩; have HP5 := As.mk (HD0.out.trans hu (fun _ _ h => h)); clear hu) | (go_at_call 15; refine (HSK.out _ ((HUW0.out.alloc _).drew)).mono ?_; rintro r w5 ⟨rfl, hu⟩; obtain ⟨hs5, hu5⟩ := up_one ((Upd.refl (fun _ => False) (v0.alloc _)).drew.trans hu (fun _ _ h => h)); have HS5 := As.mk hs5; have HP5 := As.mk hu5; have hbl5 : v0.heap.size < w5.heap.size := lt_of_block HS5.out; have hcf5 : ∀ i, w5.frozen? ⟨v0.heap.size, i, none⟩ = false := (fun i => by simp [World.frozen?, HS5.out]); obtain ⟨k0, k1, k2, k3⟩ := cells4 HS5.out; clear hu hs5 hu5)
                refine hK.out _ _ (fun _ => by with_reducible (first | exact HK8.out _ HD0.out | exact HK8.out _ HP5.out | exact HK8.out _ (HP5.out.alloc _) | exact HK8.out _ ((Upd.refl _ v0).alloc _).drew | exact HK8.out _ (set4_pure8 HP5.out (Nat.le_refl _) _ _ _ _))) (fun hHeld => ?_)
                replace hHeld := hHeld (by decide)
                clear hK K
                (try simp only [Act.put, List.setIfInBounds_toArray, List.set_cons_zero, List.set_cons_succ])
                refine zT 5 ?_
                refine zT 10 ?_
                refine sT 11 ?_
                refine sT 12 ?_
                (try simp only [Act.put, List.setIfInBounds_toArray, List.set_cons_zero, List.set_cons_succ])
                refine sT 13 ?_
                refine zT 14 ?_
                refine zT 20 ?_
                refine oT 21 (fun K hK => ?_)
                go_simp
                refine hK.out _ _ (fun _ => by with_reducible (first | exact HK8.out _ HD0.out | exact HK8.out _ HP5.out | exact HK8.out _ (HP5.out.alloc _) | exact HK8.out _ ((Upd.refl _ v0).alloc _).drew | exact HK8.out _ (set4_pure8 HP5.out (Nat.le_refl _) _ _ _ _))) (fun hHeld => ?_)
                replace hHeld := hHeld (by decide)
                clear hK K
                (try simp only [Act.put, List.setIfInBounds_toArray, List.set_cons_zero, List.set_cons_succ])
                refine oT 22 (fun K hK => ?_)
                go_simp
                refine hK.out _ _ (fun h => absurd rfl h) (fun hHeld => ?_)
                clear hK K
                (try simp only [Act.put, List.setIfInBounds_toArray, List.set_cons_zero, List.set_cons_succ])
                refine wpAnyT_done (by kernel_rfl) ?_ _
              case' rw3b =>
                go_simp
                refine hK.out _ _ (fun _ => by with_reducible (first | exact HK8.out _ HD0.out | exact HK8.out _ HP5.out | exact HK8.out _ (HP5.out.alloc _) | exact HK8.out _ ((Upd.refl _ v0).alloc _).drew | exact HK8.out _ (set4_pure8 HP5.out (Nat.le_refl _) _ _ _ _))) (fun hHeld => ?_)
                replace hHeld := hHeld (by decide)
                clear hK K
                (try simp only [Act.put, List.setIfInBounds_toArray, List.set_cons_zero, List.set_cons_succ])
                refine oT 4 (fun K hK => ?_)
                go_simp
                first | (go_at_call 15; with_reducible refine (HSK.out v0.drew (HUW0.out.trans HD0.out (fun _ _ h => h))).mono ?_; rintro r w5 ⟨rfl, hu⟩; have HP5 := As.mk (HD0.out.trans hu (fun _ _ h => h)); clear hu) | (go_at_call 15; refine (HSK.out _ ((HUW0.out.alloc _).drew)).mono ?_; rintro r w5 ⟨rfl, hu⟩; obtain ⟨hs5, hu5⟩ := up_one ((Upd.refl (fun _ => False) (v0.alloc _)).drew.trans hu (fun _ _ h => h)); have HS5 := As.mk hs5; have HP5 := As.mk hu5; have hbl5 : v0.heap.size < w5.heap.size := lt_of_block HS5.out; have hcf5 : ∀ i, w5.frozen? ⟨v0.heap.size, i, none⟩ = false := (fun i => by simp [World.frozen?, HS5.out]); obtain ⟨k0, k1, k2, k3⟩ := cells4 HS5.out; clear hu hs5 hu5)
                refine hK.out _ _ (fun _ => by with_reducible (first | exact HK8.out _ HD0.out | exact HK8.out _ HP5.out | exact HK8.out _ (HP5.out.alloc _) | exact HK8.out _ ((Upd.refl _ v0).alloc _).drew | exact HK8.out _ (set4_pure8 HP5.out (Nat.le_refl _) _ _ _ _))) (fun hHeld => ?_)
                replace hHeld := hHeld (by decide)
                clear hK K
                (try simp only [Act.put, List.setIfInBounds_toArray, List.set_cons_zero, List.set_cons_succ])
                refine zT 5 ?_
                (try simp only [Act.put, List.setIfInBounds_toArray, List.set_cons_zero, List.set_cons_succ])
                refine zT 10 ?_
                refine sT 11 ?_
                refine sT 12 ?_
                refine sT 13 ?_
                (try simp only [Act.put, List.setIfInBounds_toArray, List.set_cons_zero, List.set_cons_succ])
                refine zT 14 ?_
                refine zT 20 ?_
                refine oT 22 (fun K hK => ?_)
                go_simp
                refine hK.out _ _ (fun h => absurd rfl h) (fun hHeld => ?_)
                clear hK K
                (try simp only [Act.put, List.setIfInBounds_toArray, List.set_cons_zero, List.set_cons_succ])
                refine wpAnyT_done (by kernel_rfl) ?_ _
              rotate_left
              · have HS9 := As.mk (heap_alloc_new w5 (.cells #[.int .i64 (x.at0 + dk), .bool false, .int .i64 (k : Nat), .int .i64 (p - x.at0)] 31))
                have HU9 := As.mk (HP5.out.alloc (.cells #[.int .i64 (x.at0 + dk), .bool false, .int .i64 (k : Nat), .int .i64 (p - x.at0)] 31))
                have HL9 := As.mk (show wr.heap.size < w5.heap.size from Nat.lt_of_lt_of_le (lt_of_block HRB0.out) HP5.out.size)
                iterate 6 (try clear hHeld)
                generalize w5.alloc (.cells #[.int .i64 (x.at0 + dk), .bool false, .int .i64 (k : Nat), .int .i64 (p - x.at0)] 31) = v9 at *
                generalize w5.heap.size = sb at *
                have HB9 := As.mk ((HU9.out.block w.heap.size (lt_of_block HB0.out) (fun h => h)).trans HB0.out)
                have HR9 := As.mk ((HU9.out.block wr.heap.size (lt_of_block HRB0.out) (fun h => h)).trans HRB0.out)
                have HUW9 := As.mk (HUW0.out.trans HU9.out (fun _ _ h => h))
                have hne1 : w.heap.size ≠ sb := by have := HL0.out; have := HL9.out; omega
                have hne2 : wr.heap.size ≠ sb := by have := HL9.out; omega
                have hb9 : w.heap.size < v9.heap.size := lt_of_block HB9.out
                have hcf9 : ∀ i, v9.frozen? ⟨w.heap.size, i, none⟩ = false := fun i => by simp [World.frozen?, HB9.out]
                have hs9 : sb < v9.heap.size := lt_of_block HS9.out
                have hcs9 : ∀ i, v9.frozen? ⟨sb, i, none⟩ = false := fun i => by simp [World.frozen?, HS9.out]
                have hr9 : wr.heap.size < v9.heap.size := lt_of_block HR9.out
                obtain ⟨s0, s1, s2, s3⟩ := cells4 HS9.out
                obtain ⟨z0, z1, z2, z3⟩ := cells4 HB9.out
                obtain ⟨y0, y1, y2⟩ := cells3r HR9.out
                clear r0 r1 r2
                go_wp2
                exact bodyPost_ret (spot_end (rb := w.heap.size) rfl _ rfl (set4 (rb := w.heap.size) (by (try simp only [heap_other hne1]); exact HB9.out) _ _ _ _)) rfl ⟨⟨_, _, _, by rw [HVV.out]; rfl⟩, set4_pure8 (by repeat (first | exact HUW9.out | refine Upd.setCell ?_ (fun h => absurd h (by show ¬ sb < w.heap.size; have := HL0.out; have := HL9.out; omega)) _)) (Nat.le_refl _) _ _ _ _⟩
              · have HS9 := As.mk (set4 HS5.out (.int .i64 (x.at0 + dk)) (.bool false) (.int .i64 (k : Nat)) (.int .i64 (p - x.at0)))
                have HU9 := As.mk (set4_pure8 HP5.out (Nat.le_refl _) (.int .i64 (x.at0 + dk)) (.bool false) (.int .i64 (k : Nat)) (.int .i64 (p - x.at0)))
                have HL9 := As.mk (show wr.heap.size < v0.heap.size from lt_of_block HRB0.out)
                iterate 6 (try clear hHeld)
                clear k0 k1 k2 k3 hbl5 hcf5
                generalize ((((w5.setCell ⟨v0.heap.size, 0, none⟩ (.int .i64 (x.at0 + dk))).setCell ⟨v0.heap.size, 1, none⟩ (.bool false)).setCell ⟨v0.heap.size, 2, none⟩ (.int .i64 (k : Nat))).setCell ⟨v0.heap.size, 3, none⟩ (.int .i64 (p - x.at0))) = v9 at *
                generalize v0.heap.size = sb at *
                have HB9 := As.mk ((HU9.out.block w.heap.size (lt_of_block HB0.out) (fun h => h)).trans HB0.out)
                have HR9 := As.mk ((HU9.out.block wr.heap.size (lt_of_block HRB0.out) (fun h => h)).trans HRB0.out)
                have HUW9 := As.mk (HUW0.out.trans HU9.out (fun _ _ h => h))
                have hne1 : w.heap.size ≠ sb := by have := HL0.out; have := HL9.out; omega
                have hne2 : wr.heap.size ≠ sb := by have := HL9.out; omega
                have hb9 : w.heap.size < v9.heap.size := lt_of_block HB9.out
                have hcf9 : ∀ i, v9.frozen? ⟨w.heap.size, i, none⟩ = false := fun i => by simp [World.frozen?, HB9.out]
                have hs9 : sb < v9.heap.size := lt_of_block HS9.out
                have hcs9 : ∀ i, v9.frozen? ⟨sb, i, none⟩ = false := fun i => by simp [World.frozen?, HS9.out]
                have hr9 : wr.heap.size < v9.heap.size := lt_of_block HR9.out
                obtain ⟨s0, s1, s2, s3⟩ := cells4 HS9.out
                obtain ⟨z0, z1, z2, z3⟩ := cells4 HB9.out
                obtain ⟨y0, y1, y2⟩ := cells3r HR9.out
                clear r0 r1 r2
                go_wp2
                exact bodyPost_ret (spot_end (rb := w.heap.size) rfl _ rfl (set4 (rb := w.heap.size) (by (try simp only [heap_other hne1]); exact HB9.out) _ _ _ _)) rfl ⟨⟨_, _, _, by rw [HVV.out]; rfl⟩, set4_pure8 (by repeat (first | exact HUW9.out | refine Upd.setCell ?_ (fun h => absurd h (by show ¬ sb < w.heap.size; have := HL0.out; have := HL9.out; omega)) _)) (Nat.le_refl _) _ _ _ _⟩
            · have g1 : 0 ≤ side := by omega
              have f1 : 0 < x.old := by omega
              have f2 : (p == x.at0) = true := by simp; omega
              have f3 : (p == x.at0 + x.old) = false := by simp; omega
              have f4 : decide (x.at0 < p) = false := by simp; omega
              have HVV := As.mk (show mapGo p side 0 m = x.at0 + dk by have h9 := HV.out; rw [inAt_1 hK.1 hK.2] at h9; omega)
              clear hb hK HV hdl
              go_wp2
              have HRB0 := As.mk (heap_alloc_new wr (.cells #[.int .i64 x.at0, .int .i64 x.old, .int .i64 x.new] 47))
              have HU0 := As.mk (HW.out.alloc (.cells #[.int .i64 x.at0, .int .i64 x.old, .int .i64 x.new] 47))
              have HB0 := As.mk ((HU0.out.block w.heap.size (lt_of_block HB1.out) (fun h => h)).trans HB1.out)
              have HL0 := As.mk (show w.heap.size < wr.heap.size from lt_of_block ((HW.out.block w.heap.size (lt_of_block HB1.out) (fun h => h)).trans HB1.out))
              have HUW0 := As.mk (HU1.out.trans HU0.out (fun _ _ h => h))
              generalize wr.alloc (.cells #[.int .i64 x.at0, .int .i64 x.old, .int .i64 x.new] 47) = v0 at *
              obtain ⟨r0, r1, r2⟩ := cells3r HRB0.out
              have HK8 := As.mk (fun v (hu : Pure v0 v) => (cells3r ((hu.block wr.heap.size (lt_of_block HRB0.out) (fun h => h)).trans HRB0.out) : (fun v => v.cell? ⟨wr.heap.size, 0, none⟩ = some (.int .i64 x.at0) ∧ v.cell? ⟨wr.heap.size, 1, none⟩ = some (.int .i64 x.old) ∧ v.cell? ⟨wr.heap.size, 2, none⟩ = some (.int .i64 x.new)) v))
              have HD0 := As.mk (show Pure v0 v0.drew from (Upd.refl _ _).drew)
              refine wp_region_T (P := Tryd.prog) (fun v => v.cell? ⟨wr.heap.size, 0, none⟩ = some (.int .i64 x.at0) ∧ v.cell? ⟨wr.heap.size, 1, none⟩ = some (.int .i64 x.old) ∧ v.cell? ⟨wr.heap.size, 2, none⟩ = some (.int .i64 x.new)) 22 (by kernel_rfl) ?_ (fun hHeld => ?_)
              · with_reducible (first | exact HK8.out _ HD0.out | exact HK8.out _ HP5.out | exact HK8.out _ (HP5.out.alloc _) | exact HK8.out _ ((Upd.refl _ v0).alloc _).drew | exact HK8.out _ (set4_pure8 HP5.out (Nat.le_refl _) _ _ _ _))
              refine zT 0 ?_
              (try simp only [Act.put, List.setIfInBounds_toArray, List.set_cons_zero, List.set_cons_succ])
              refine zT 1 ?_
              refine zT 2 ?_
              refine zT 3 ?_
              refine zT 6 ?_
              (try simp only [Act.put, List.setIfInBounds_toArray, List.set_cons_zero, List.set_cons_succ])
              refine zT 7 ?_
              refine zT 8 ?_
              refine zT 9 ?_
              refine zT 15 ?_
              (try simp only [Act.put, List.setIfInBounds_toArray, List.set_cons_zero, List.set_cons_succ])
              refine zT 16 ?_
              refine zT 17 ?_
              refine zT 18 ?_
              refine zT 19 ?_
              (try simp only [Act.put, List.setIfInBounds_toArray, List.set_cons_zero, List.set_cons_succ])
              refine wpAnyT_two (i := 4) (j := 21) (o1 := { dst := (some 72), op := (Go.Op.call { callee := (Go.Callee.value (Go.Operand.func 15)), args := #[(Go.Operand.tmp 70), (Go.Operand.tmp 71)], argTypes := #[22, 3] }), type := 3, pos := "ref.go:57", after := #[{ on := 2, ground := Go.Ground.data }, { on := 3, ground := Go.Ground.data }], guard := none }) (o2 := { dst := (some 12), op := (Go.Op.alloc 31), type := 0, pos := "ref.go:57", after := #[], guard := none }) (by kernel_rfl) rfl rfl (fun K hK => ?rw4a) (fun K hK => ?rw4b)
              case' rw4a =>
                go_simp
                first | (go_at_call 15; with_reducible refine (HSK.out v0.drew (HUW0.out.trans HD0.out (fun _ _ h => h))).mono ?_; rintro r w5 ⟨rfl, hu⟩; have HP5 := As.mk (HD0.out.trans hu (fun _ _ h => h)); clear hu) | (go_at_call 15; refine (HSK.out _ ((HUW0.out.alloc _).drew)).mono ?_; rintro r w5 ⟨rfl, hu⟩; obtain ⟨hs5, hu5⟩ := up_one ((Upd.refl (fun _ => False) (v0.alloc _)).drew.trans hu (fun _ _ h => h)); have HS5 := As.mk hs5; have HP5 := As.mk hu5; have hbl5 : v0.heap.size < w5.heap.size := lt_of_block HS5.out; have hcf5 : ∀ i, w5.frozen? ⟨v0.heap.size, i, none⟩ = false := (fun i => by simp [World.frozen?, HS5.out]); obtain ⟨k0, k1, k2, k3⟩ := cells4 HS5.out; clear hu hs5 hu5)
                refine hK.out _ _ (fun _ => by with_reducible (first | exact HK8.out _ HD0.out | exact HK8.out _ HP5.out | exact HK8.out _ (HP5.out.alloc _) | exact HK8.out _ ((Upd.refl _ v0).alloc _).drew | exact HK8.out _ (set4_pure8 HP5.out (Nat.le_refl _) _ _ _ _))) (fun hHeld => ?_)
                replace hHeld := hHeld (by decide)
                clear hK K
                (try simp only [Act.put, List.setIfInBounds_toArray, List.set_cons_zero, List.set_cons_succ])
                refine zT 5 ?_
                refine zT 10 ?_
                refine sT 11 ?_
                (try simp only [Act.put, List.setIfInBounds_toArray, List.set_cons_zero, List.set_cons_succ])
                refine sT 12 ?_
                refine sT 13 ?_
                refine zT 14 ?_
                refine zT 20 ?_
                (try simp only [Act.put, List.setIfInBounds_toArray, List.set_cons_zero, List.set_cons_succ])
                refine oT 21 (fun K hK => ?_)
                go_simp
                refine hK.out _ _ (fun _ => by with_reducible (first | exact HK8.out _ HD0.out | exact HK8.out _ HP5.out | exact HK8.out _ (HP5.out.alloc _) | exact HK8.out _ ((Upd.refl _ v0).alloc _).drew | exact HK8.out _ (set4_pure8 HP5.out (Nat.le_refl _) _ _ _ _))) (fun hHeld => ?_)
                replace hHeld := hHeld (by decide)
                clear hK K
                (try simp only [Act.put, List.setIfInBounds_toArray, List.set_cons_zero, List.set_cons_succ])
                refine oT 22 (fun K hK => ?_)
                go_simp
                refine hK.out _ _ (fun h => absurd rfl h) (fun hHeld => ?_)
                clear hK K
                (try simp only [Act.put, List.setIfInBounds_toArray, List.set_cons_zero, List.set_cons_succ])
                refine wpAnyT_done (by kernel_rfl) ?_ _
              case' rw4b =>
                go_simp
                refine hK.out _ _ (fun _ => by with_reducible (first | exact HK8.out _ HD0.out | exact HK8.out _ HP5.out | exact HK8.out _ (HP5.out.alloc _) | exact HK8.out _ ((Upd.refl _ v0).alloc _).drew | exact HK8.out _ (set4_pure8 HP5.out (Nat.le_refl _) _ _ _ _))) (fun hHeld => ?_)
                replace hHeld := hHeld (by decide)
                clear hK K
                (try simp only [Act.put, List.setIfInBounds_toArray, List.set_cons_zero, List.set_cons_succ])
                refine oT 4 (fun K hK => ?_)
                go_simp
                first | (go_at_call 15; with_reducible refine (HSK.out v0.drew (HUW0.out.trans HD0.out (fun _ _ h => h))).mono ?_; rintro r w5 ⟨rfl, hu⟩; have HP5 := As.mk (HD0.out.trans hu (fun _ _ h => h)); clear hu) | (go_at_call 15; refine (HSK.out _ ((HUW0.out.alloc _).drew)).mono ?_; rintro r w5 ⟨rfl, hu⟩; obtain ⟨hs5, hu5⟩ := up_one ((Upd.refl (fun _ => False) (v0.alloc _)).drew.trans hu (fun _ _ h => h)); have HS5 := As.mk hs5; have HP5 := As.mk hu5; have hbl5 : v0.heap.size < w5.heap.size := lt_of_block HS5.out; have hcf5 : ∀ i, w5.frozen? ⟨v0.heap.size, i, none⟩ = false := (fun i => by simp [World.frozen?, HS5.out]); obtain ⟨k0, k1, k2, k3⟩ := cells4 HS5.out; clear hu hs5 hu5)
                refine hK.out _ _ (fun _ => by with_reducible (first | exact HK8.out _ HD0.out | exact HK8.out _ HP5.out | exact HK8.out _ (HP5.out.alloc _) | exact HK8.out _ ((Upd.refl _ v0).alloc _).drew | exact HK8.out _ (set4_pure8 HP5.out (Nat.le_refl _) _ _ _ _))) (fun hHeld => ?_)
                replace hHeld := hHeld (by decide)
                clear hK K
                (try simp only [Act.put, List.setIfInBounds_toArray, List.set_cons_zero, List.set_cons_succ])
                refine zT 5 ?_
                refine zT 10 ?_
                refine sT 11 ?_
                refine sT 12 ?_
                (try simp only [Act.put, List.setIfInBounds_toArray, List.set_cons_zero, List.set_cons_succ])
                refine sT 13 ?_
                refine zT 14 ?_
                refine zT 20 ?_
                refine oT 22 (fun K hK => ?_)
                go_simp
                refine hK.out _ _ (fun h => absurd rfl h) (fun hHeld => ?_)
                clear hK K
                (try simp only [Act.put, List.setIfInBounds_toArray, List.set_cons_zero, List.set_cons_succ])
                refine wpAnyT_done (by kernel_rfl) ?_ _
              rotate_left
              · have HS9 := As.mk (heap_alloc_new w5 (.cells #[.int .i64 (x.at0 + dk), .bool false, .int .i64 (k : Nat), .int .i64 (p - x.at0)] 31))
                have HU9 := As.mk (HP5.out.alloc (.cells #[.int .i64 (x.at0 + dk), .bool false, .int .i64 (k : Nat), .int .i64 (p - x.at0)] 31))
                have HL9 := As.mk (show wr.heap.size < w5.heap.size from Nat.lt_of_lt_of_le (lt_of_block HRB0.out) HP5.out.size)
                iterate 6 (try clear hHeld)
                generalize w5.alloc (.cells #[.int .i64 (x.at0 + dk), .bool false, .int .i64 (k : Nat), .int .i64 (p - x.at0)] 31) = v9 at *
                generalize w5.heap.size = sb at *
                have HB9 := As.mk ((HU9.out.block w.heap.size (lt_of_block HB0.out) (fun h => h)).trans HB0.out)
                have HR9 := As.mk ((HU9.out.block wr.heap.size (lt_of_block HRB0.out) (fun h => h)).trans HRB0.out)
                have HUW9 := As.mk (HUW0.out.trans HU9.out (fun _ _ h => h))
                have hne1 : w.heap.size ≠ sb := by have := HL0.out; have := HL9.out; omega
                have hne2 : wr.heap.size ≠ sb := by have := HL9.out; omega
                have hb9 : w.heap.size < v9.heap.size := lt_of_block HB9.out
                have hcf9 : ∀ i, v9.frozen? ⟨w.heap.size, i, none⟩ = false := fun i => by simp [World.frozen?, HB9.out]
                have hs9 : sb < v9.heap.size := lt_of_block HS9.out
                have hcs9 : ∀ i, v9.frozen? ⟨sb, i, none⟩ = false := fun i => by simp [World.frozen?, HS9.out]
                have hr9 : wr.heap.size < v9.heap.size := lt_of_block HR9.out
                obtain ⟨s0, s1, s2, s3⟩ := cells4 HS9.out
                obtain ⟨z0, z1, z2, z3⟩ := cells4 HB9.out
                obtain ⟨y0, y1, y2⟩ := cells3r HR9.out
                clear r0 r1 r2
                go_wp2
                exact bodyPost_ret (spot_end (rb := w.heap.size) rfl _ rfl (set4 (rb := w.heap.size) (by (try simp only [heap_other hne1]); exact HB9.out) _ _ _ _)) rfl ⟨⟨_, _, _, by rw [HVV.out]; rfl⟩, set4_pure8 (by repeat (first | exact HUW9.out | refine Upd.setCell ?_ (fun h => absurd h (by show ¬ sb < w.heap.size; have := HL0.out; have := HL9.out; omega)) _)) (Nat.le_refl _) _ _ _ _⟩
              · have HS9 := As.mk (set4 HS5.out (.int .i64 (x.at0 + dk)) (.bool false) (.int .i64 (k : Nat)) (.int .i64 (p - x.at0)))
                have HU9 := As.mk (set4_pure8 HP5.out (Nat.le_refl _) (.int .i64 (x.at0 + dk)) (.bool false) (.int .i64 (k : Nat)) (.int .i64 (p - x.at0)))
                have HL9 := As.mk (show wr.heap.size < v0.heap.size from lt_of_block HRB0.out)
                iterate 6 (try clear hHeld)
                clear k0 k1 k2 k3 hbl5 hcf5
                generalize ((((w5.setCell ⟨v0.heap.size, 0, none⟩ (.int .i64 (x.at0 + dk))).setCell ⟨v0.heap.size, 1, none⟩ (.bool false)).setCell ⟨v0.heap.size, 2, none⟩ (.int .i64 (k : Nat))).setCell ⟨v0.heap.size, 3, none⟩ (.int .i64 (p - x.at0))) = v9 at *
                generalize v0.heap.size = sb at *
                have HB9 := As.mk ((HU9.out.block w.heap.size (lt_of_block HB0.out) (fun h => h)).trans HB0.out)
                have HR9 := As.mk ((HU9.out.block wr.heap.size (lt_of_block HRB0.out) (fun h => h)).trans HRB0.out)
                have HUW9 := As.mk (HUW0.out.trans HU9.out (fun _ _ h => h))
                have hne1 : w.heap.size ≠ sb := by have := HL0.out; have := HL9.out; omega
                have hne2 : wr.heap.size ≠ sb := by have := HL9.out; omega
                have hb9 : w.heap.size < v9.heap.size := lt_of_block HB9.out
                have hcf9 : ∀ i, v9.frozen? ⟨w.heap.size, i, none⟩ = false := fun i => by simp [World.frozen?, HB9.out]
                have hs9 : sb < v9.heap.size := lt_of_block HS9.out
                have hcs9 : ∀ i, v9.frozen? ⟨sb, i, none⟩ = false := fun i => by simp [World.frozen?, HS9.out]
                have hr9 : wr.heap.size < v9.heap.size := lt_of_block HR9.out
                obtain ⟨s0, s1, s2, s3⟩ := cells4 HS9.out
                obtain ⟨z0, z1, z2, z3⟩ := cells4 HB9.out
                obtain ⟨y0, y1, y2⟩ := cells3r HR9.out
                clear r0 r1 r2
                go_wp2
                exact bodyPost_ret (spot_end (rb := w.heap.size) rfl _ rfl (set4 (rb := w.heap.size) (by (try simp only [heap_other hne1]); exact HB9.out) _ _ _ _)) rfl ⟨⟨_, _, _, by rw [HVV.out]; rfl⟩, set4_pure8 (by repeat (first | exact HUW9.out | refine Upd.setCell ?_ (fun h => absurd h (by show ¬ sb < w.heap.size; have := HL0.out; have := HL9.out; omega)) _)) (Nat.le_refl _) _ _ _ _⟩
          · by_cases hsd : side < 0
            · have g1 : ¬ 0 ≤ side := by omega
              have f1 : 0 < x.old := by omega
              have f2 : (p == x.at0) = false := by simp; omega
              have f3 : (p == x.at0 + x.old) = true := by simp; omega
              have f4 : x.at0 < p := by omega
              have f5 : decide (p < x.at0 + x.old) = false := by simp; omega
              have HVV := As.mk (show mapGo p side 0 m = x.at0 + dk + x.new by have h9 := HV.out; rw [inAt_2 hK.1 hK.2] at h9; omega)
              clear hb hK HV hdl
              go_wp2
              have HRB0 := As.mk (heap_alloc_new wr (.cells #[.int .i64 x.at0, .int .i64 x.old, .int .i64 x.new] 47))
              have HU0 := As.mk (HW.out.alloc (.cells #[.int .i64 x.at0, .int .i64 x.old, .int .i64 x.new] 47))
              have HB0 := As.mk ((HU0.out.block w.heap.size (lt_of_block HB1.out) (fun h => h)).trans HB1.out)
              have HL0 := As.mk (show w.heap.size < wr.heap.size from lt_of_block ((HW.out.block w.heap.size (lt_of_block HB1.out) (fun h => h)).trans HB1.out))
              have HUW0 := As.mk (HU1.out.trans HU0.out (fun _ _ h => h))
              generalize wr.alloc (.cells #[.int .i64 x.at0, .int .i64 x.old, .int .i64 x.new] 47) = v0 at *
              obtain ⟨r0, r1, r2⟩ := cells3r HRB0.out
              have HK8 := As.mk (fun v (hu : Pure v0 v) => (cells3r ((hu.block wr.heap.size (lt_of_block HRB0.out) (fun h => h)).trans HRB0.out) : (fun v => v.cell? ⟨wr.heap.size, 0, none⟩ = some (.int .i64 x.at0) ∧ v.cell? ⟨wr.heap.size, 1, none⟩ = some (.int .i64 x.old) ∧ v.cell? ⟨wr.heap.size, 2, none⟩ = some (.int .i64 x.new)) v))
              have HD0 := As.mk (show Pure v0 v0.drew from (Upd.refl _ _).drew)
              refine wp_region_T (P := Tryd.prog) (fun v => v.cell? ⟨wr.heap.size, 0, none⟩ = some (.int .i64 x.at0) ∧ v.cell? ⟨wr.heap.size, 1, none⟩ = some (.int .i64 x.old) ∧ v.cell? ⟨wr.heap.size, 2, none⟩ = some (.int .i64 x.new)) 22 (by kernel_rfl) ?_ (fun hHeld => ?_)
              · with_reducible (first | exact HK8.out _ HD0.out | exact HK8.out _ HP5.out | exact HK8.out _ (HP5.out.alloc _) | exact HK8.out _ ((Upd.refl _ v0).alloc _).drew | exact HK8.out _ (set4_pure8 HP5.out (Nat.le_refl _) _ _ _ _))
              refine zT 0 ?_
              refine zT 1 ?_
              refine zT 2 ?_
              refine zT 3 ?_
              (try simp only [Act.put, List.setIfInBounds_toArray, List.set_cons_zero, List.set_cons_succ])
              refine zT 6 ?_
              refine zT 7 ?_
              refine zT 8 ?_
              refine zT 9 ?_
              (try simp only [Act.put, List.setIfInBounds_toArray, List.set_cons_zero, List.set_cons_succ])
              refine zT 15 ?_
              refine zT 16 ?_
              refine zT 17 ?_
              refine zT 18 ?_
              (try simp only [Act.put, List.setIfInBounds_toArray, List.set_cons_zero, List.set_cons_succ])
              refine zT 19 ?_
              refine wpAnyT_two (i := 4) (j := 21) (o1 := { dst := (some 72), op := (Go.Op.call { callee := (Go.Callee.value (Go.Operand.func 15)), args := #[(Go.Operand.tmp 70), (Go.Operand.tmp 71)], argTypes := #[22, 3] }), type := 3, pos := "ref.go:57", after := #[{ on := 2, ground := Go.Ground.data }, { on := 3, ground := Go.Ground.data }], guard := none }) (o2 := { dst := (some 12), op := (Go.Op.alloc 31), type := 0, pos := "ref.go:57", after := #[], guard := none }) (by kernel_rfl) rfl rfl (fun K hK => ?rw5a) (fun K hK => ?rw5b)
              case' rw5a =>
                go_simp
                first | (go_at_call 15; with_reducible refine (HSK.out v0.drew (HUW0.out.trans HD0.out (fun _ _ h => h))).mono ?_; rintro r w5 ⟨rfl, hu⟩; have HP5 := As.mk (HD0.out.trans hu (fun _ _ h => h)); clear hu) | (go_at_call 15; refine (HSK.out _ ((HUW0.out.alloc _).drew)).mono ?_; rintro r w5 ⟨rfl, hu⟩; obtain ⟨hs5, hu5⟩ := up_one ((Upd.refl (fun _ => False) (v0.alloc _)).drew.trans hu (fun _ _ h => h)); have HS5 := As.mk hs5; have HP5 := As.mk hu5; have hbl5 : v0.heap.size < w5.heap.size := lt_of_block HS5.out; have hcf5 : ∀ i, w5.frozen? ⟨v0.heap.size, i, none⟩ = false := (fun i => by simp [World.frozen?, HS5.out]); obtain ⟨k0, k1, k2, k3⟩ := cells4 HS5.out; clear hu hs5 hu5)
                refine hK.out _ _ (fun _ => by with_reducible (first | exact HK8.out _ HD0.out | exact HK8.out _ HP5.out | exact HK8.out _ (HP5.out.alloc _) | exact HK8.out _ ((Upd.refl _ v0).alloc _).drew | exact HK8.out _ (set4_pure8 HP5.out (Nat.le_refl _) _ _ _ _))) (fun hHeld => ?_)
                replace hHeld := hHeld (by decide)
                clear hK K
                (try simp only [Act.put, List.setIfInBounds_toArray, List.set_cons_zero, List.set_cons_succ])
                refine zT 5 ?_
                refine zT 10 ?_
                (try simp only [Act.put, List.setIfInBounds_toArray, List.set_cons_zero, List.set_cons_succ])
                refine zT 11 ?_
                refine zT 12 ?_
                refine zT 13 ?_
                refine zT 14 ?_
                (try simp only [Act.put, List.setIfInBounds_toArray, List.set_cons_zero, List.set_cons_succ])
                refine zT 20 ?_
                refine oT 21 (fun K hK => ?_)
                go_simp
                refine hK.out _ _ (fun _ => by with_reducible (first | exact HK8.out _ HD0.out | exact HK8.out _ HP5.out | exact HK8.out _ (HP5.out.alloc _) | exact HK8.out _ ((Upd.refl _ v0).alloc _).drew | exact HK8.out _ (set4_pure8 HP5.out (Nat.le_refl _) _ _ _ _))) (fun hHeld => ?_)
                replace hHeld := hHeld (by decide)
                clear hK K
                (try simp only [Act.put, List.setIfInBounds_toArray, List.set_cons_zero, List.set_cons_succ])
                refine oT 22 (fun K hK => ?_)
                go_simp
                refine hK.out _ _ (fun h => absurd rfl h) (fun hHeld => ?_)
                clear hK K
                (try simp only [Act.put, List.setIfInBounds_toArray, List.set_cons_zero, List.set_cons_succ])
                refine wpAnyT_done (by kernel_rfl) ?_ _
              case' rw5b =>
                go_simp
                refine hK.out _ _ (fun _ => by with_reducible (first | exact HK8.out _ HD0.out | exact HK8.out _ HP5.out | exact HK8.out _ (HP5.out.alloc _) | exact HK8.out _ ((Upd.refl _ v0).alloc _).drew | exact HK8.out _ (set4_pure8 HP5.out (Nat.le_refl _) _ _ _ _))) (fun hHeld => ?_)
                replace hHeld := hHeld (by decide)
                clear hK K
                (try simp only [Act.put, List.setIfInBounds_toArray, List.set_cons_zero, List.set_cons_succ])
                refine oT 4 (fun K hK => ?_)
                go_simp
                first | (go_at_call 15; with_reducible refine (HSK.out v0.drew (HUW0.out.trans HD0.out (fun _ _ h => h))).mono ?_; rintro r w5 ⟨rfl, hu⟩; have HP5 := As.mk (HD0.out.trans hu (fun _ _ h => h)); clear hu) | (go_at_call 15; refine (HSK.out _ ((HUW0.out.alloc _).drew)).mono ?_; rintro r w5 ⟨rfl, hu⟩; obtain ⟨hs5, hu5⟩ := up_one ((Upd.refl (fun _ => False) (v0.alloc _)).drew.trans hu (fun _ _ h => h)); have HS5 := As.mk hs5; have HP5 := As.mk hu5; have hbl5 : v0.heap.size < w5.heap.size := lt_of_block HS5.out; have hcf5 : ∀ i, w5.frozen? ⟨v0.heap.size, i, none⟩ = false := (fun i => by simp [World.frozen?, HS5.out]); obtain ⟨k0, k1, k2, k3⟩ := cells4 HS5.out; clear hu hs5 hu5)
                refine hK.out _ _ (fun _ => by with_reducible (first | exact HK8.out _ HD0.out | exact HK8.out _ HP5.out | exact HK8.out _ (HP5.out.alloc _) | exact HK8.out _ ((Upd.refl _ v0).alloc _).drew | exact HK8.out _ (set4_pure8 HP5.out (Nat.le_refl _) _ _ _ _))) (fun hHeld => ?_)
                replace hHeld := hHeld (by decide)
                clear hK K
                (try simp only [Act.put, List.setIfInBounds_toArray, List.set_cons_zero, List.set_cons_succ])
                refine zT 5 ?_
                refine zT 10 ?_
                refine zT 11 ?_
                (try simp only [Act.put, List.setIfInBounds_toArray, List.set_cons_zero, List.set_cons_succ])
                refine zT 12 ?_
                refine zT 13 ?_
                refine zT 14 ?_
                refine zT 20 ?_
                (try simp only [Act.put, List.setIfInBounds_toArray, List.set_cons_zero, List.set_cons_succ])
                refine oT 22 (fun K hK => ?_)
                go_simp
                refine hK.out _ _ (fun h => absurd rfl h) (fun hHeld => ?_)
                clear hK K
                (try simp only [Act.put, List.setIfInBounds_toArray, List.set_cons_zero, List.set_cons_succ])
                refine wpAnyT_done (by kernel_rfl) ?_ _
              rotate_left
              · have HS9 := As.mk (heap_alloc_new w5 (.cells #[.int .i64 (x.at0 + dk), .bool false, .int .i64 (k : Nat), .int .i64 (p - x.at0)] 31))
                have HU9 := As.mk (HP5.out.alloc (.cells #[.int .i64 (x.at0 + dk), .bool false, .int .i64 (k : Nat), .int .i64 (p - x.at0)] 31))
                have HL9 := As.mk (show wr.heap.size < w5.heap.size from Nat.lt_of_lt_of_le (lt_of_block HRB0.out) HP5.out.size)
                iterate 6 (try clear hHeld)
                generalize w5.alloc (.cells #[.int .i64 (x.at0 + dk), .bool false, .int .i64 (k : Nat), .int .i64 (p - x.at0)] 31) = v9 at *
                generalize w5.heap.size = sb at *
                have HB9 := As.mk ((HU9.out.block w.heap.size (lt_of_block HB0.out) (fun h => h)).trans HB0.out)
                have HR9 := As.mk ((HU9.out.block wr.heap.size (lt_of_block HRB0.out) (fun h => h)).trans HRB0.out)
                have HUW9 := As.mk (HUW0.out.trans HU9.out (fun _ _ h => h))
                have hne1 : w.heap.size ≠ sb := by have := HL0.out; have := HL9.out; omega
                have hne2 : wr.heap.size ≠ sb := by have := HL9.out; omega
                have hb9 : w.heap.size < v9.heap.size := lt_of_block HB9.out
                have hcf9 : ∀ i, v9.frozen? ⟨w.heap.size, i, none⟩ = false := fun i => by simp [World.frozen?, HB9.out]
                have hs9 : sb < v9.heap.size := lt_of_block HS9.out
                have hcs9 : ∀ i, v9.frozen? ⟨sb, i, none⟩ = false := fun i => by simp [World.frozen?, HS9.out]
                have hr9 : wr.heap.size < v9.heap.size := lt_of_block HR9.out
                obtain ⟨s0, s1, s2, s3⟩ := cells4 HS9.out
                obtain ⟨z0, z1, z2, z3⟩ := cells4 HB9.out
                obtain ⟨y0, y1, y2⟩ := cells3r HR9.out
                clear r0 r1 r2
                go_wp2
                exact bodyPost_ret (spot_end (rb := w.heap.size) rfl _ rfl (set4 (rb := w.heap.size) (by (try simp only [heap_other hne1]); exact HB9.out) _ _ _ _)) rfl ⟨⟨_, _, _, by rw [HVV.out]; rfl⟩, set4_pure8 (by repeat (first | exact HUW9.out | refine Upd.setCell ?_ (fun h => absurd h (by show ¬ sb < w.heap.size; have := HL0.out; have := HL9.out; omega)) _)) (Nat.le_refl _) _ _ _ _⟩
              · have HS9 := As.mk (set4 HS5.out (.int .i64 (x.at0 + dk)) (.bool false) (.int .i64 (k : Nat)) (.int .i64 (p - x.at0)))
                have HU9 := As.mk (set4_pure8 HP5.out (Nat.le_refl _) (.int .i64 (x.at0 + dk)) (.bool false) (.int .i64 (k : Nat)) (.int .i64 (p - x.at0)))
                have HL9 := As.mk (show wr.heap.size < v0.heap.size from lt_of_block HRB0.out)
                iterate 6 (try clear hHeld)
                clear k0 k1 k2 k3 hbl5 hcf5
                generalize ((((w5.setCell ⟨v0.heap.size, 0, none⟩ (.int .i64 (x.at0 + dk))).setCell ⟨v0.heap.size, 1, none⟩ (.bool false)).setCell ⟨v0.heap.size, 2, none⟩ (.int .i64 (k : Nat))).setCell ⟨v0.heap.size, 3, none⟩ (.int .i64 (p - x.at0))) = v9 at *
                generalize v0.heap.size = sb at *
                have HB9 := As.mk ((HU9.out.block w.heap.size (lt_of_block HB0.out) (fun h => h)).trans HB0.out)
                have HR9 := As.mk ((HU9.out.block wr.heap.size (lt_of_block HRB0.out) (fun h => h)).trans HRB0.out)
                have HUW9 := As.mk (HUW0.out.trans HU9.out (fun _ _ h => h))
                have hne1 : w.heap.size ≠ sb := by have := HL0.out; have := HL9.out; omega
                have hne2 : wr.heap.size ≠ sb := by have := HL9.out; omega
                have hb9 : w.heap.size < v9.heap.size := lt_of_block HB9.out
                have hcf9 : ∀ i, v9.frozen? ⟨w.heap.size, i, none⟩ = false := fun i => by simp [World.frozen?, HB9.out]
                have hs9 : sb < v9.heap.size := lt_of_block HS9.out
                have hcs9 : ∀ i, v9.frozen? ⟨sb, i, none⟩ = false := fun i => by simp [World.frozen?, HS9.out]
                have hr9 : wr.heap.size < v9.heap.size := lt_of_block HR9.out
                obtain ⟨s0, s1, s2, s3⟩ := cells4 HS9.out
                obtain ⟨z0, z1, z2, z3⟩ := cells4 HB9.out
                obtain ⟨y0, y1, y2⟩ := cells3r HR9.out
                clear r0 r1 r2
                go_wp2
                exact bodyPost_ret (spot_end (rb := w.heap.size) rfl _ rfl (set4 (rb := w.heap.size) (by (try simp only [heap_other hne1]); exact HB9.out) _ _ _ _)) rfl ⟨⟨_, _, _, by rw [HVV.out]; rfl⟩, set4_pure8 (by repeat (first | exact HUW9.out | refine Upd.setCell ?_ (fun h => absurd h (by show ¬ sb < w.heap.size; have := HL0.out; have := HL9.out; omega)) _)) (Nat.le_refl _) _ _ _ _⟩
            · have g1 : 0 ≤ side := by omega
              have f1 : 0 < x.old := by omega
              have f2 : (p == x.at0) = false := by simp; omega
              have f3 : (p == x.at0 + x.old) = true := by simp; omega
              have f4 : x.at0 < p := by omega
              have f5 : decide (p < x.at0 + x.old) = false := by simp; omega
              have HVV := As.mk (show mapGo p side 0 m = x.at0 + dk + x.new by have h9 := HV.out; rw [inAt_2 hK.1 hK.2] at h9; omega)
              clear hb hK HV hdl
              go_wp2
              have HRB0 := As.mk (heap_alloc_new wr (.cells #[.int .i64 x.at0, .int .i64 x.old, .int .i64 x.new] 47))
              have HU0 := As.mk (HW.out.alloc (.cells #[.int .i64 x.at0, .int .i64 x.old, .int .i64 x.new] 47))
              have HB0 := As.mk ((HU0.out.block w.heap.size (lt_of_block HB1.out) (fun h => h)).trans HB1.out)
              have HL0 := As.mk (show w.heap.size < wr.heap.size from lt_of_block ((HW.out.block w.heap.size (lt_of_block HB1.out) (fun h => h)).trans HB1.out))
              have HUW0 := As.mk (HU1.out.trans HU0.out (fun _ _ h => h))
              generalize wr.alloc (.cells #[.int .i64 x.at0, .int .i64 x.old, .int .i64 x.new] 47) = v0 at *
              obtain ⟨r0, r1, r2⟩ := cells3r HRB0.out
              have HK8 := As.mk (fun v (hu : Pure v0 v) => (cells3r ((hu.block wr.heap.size (lt_of_block HRB0.out) (fun h => h)).trans HRB0.out) : (fun v => v.cell? ⟨wr.heap.size, 0, none⟩ = some (.int .i64 x.at0) ∧ v.cell? ⟨wr.heap.size, 1, none⟩ = some (.int .i64 x.old) ∧ v.cell? ⟨wr.heap.size, 2, none⟩ = some (.int .i64 x.new)) v))
              have HD0 := As.mk (show Pure v0 v0.drew from (Upd.refl _ _).drew)
              refine wp_region_T (P := Tryd.prog) (fun v => v.cell? ⟨wr.heap.size, 0, none⟩ = some (.int .i64 x.at0) ∧ v.cell? ⟨wr.heap.size, 1, none⟩ = some (.int .i64 x.old) ∧ v.cell? ⟨wr.heap.size, 2, none⟩ = some (.int .i64 x.new)) 22 (by kernel_rfl) ?_ (fun hHeld => ?_)
              · with_reducible (first | exact HK8.out _ HD0.out | exact HK8.out _ HP5.out | exact HK8.out _ (HP5.out.alloc _) | exact HK8.out _ ((Upd.refl _ v0).alloc _).drew | exact HK8.out _ (set4_pure8 HP5.out (Nat.le_refl _) _ _ _ _))
              refine zT 0 ?_
              refine zT 1 ?_
              refine zT 2 ?_
              (try simp only [Act.put, List.setIfInBounds_toArray, List.set_cons_zero, List.set_cons_succ])
              refine zT 3 ?_
              refine zT 6 ?_
              refine zT 7 ?_
              refine zT 8 ?_
              (try simp only [Act.put, List.setIfInBounds_toArray, List.set_cons_zero, List.set_cons_succ])
              refine zT 9 ?_
              refine zT 15 ?_
              refine zT 16 ?_
              refine zT 17 ?_
              (try simp only [Act.put, List.setIfInBounds_toArray, List.set_cons_zero, List.set_cons_succ])
              refine zT 18 ?_
              refine zT 19 ?_
              refine wpAnyT_two (i := 4) (j := 21) (o1 := { dst := (some 72), op := (Go.Op.call { callee := (Go.Callee.value (Go.Operand.func 15)), args := #[(Go.Operand.tmp 70), (Go.Operand.tmp 71)], argTypes := #[22, 3] }), type := 3, pos := "ref.go:57", after := #[{ on := 2, ground := Go.Ground.data }, { on := 3, ground := Go.Ground.data }], guard := none }) (o2 := { dst := (some 12), op := (Go.Op.alloc 31), type := 0, pos := "ref.go:57", after := #[], guard := none }) (by kernel_rfl) rfl rfl (fun K hK => ?rw6a) (fun K hK => ?rw6b)
              case' rw6a =>
                go_simp
                first | (go_at_call 15; with_reducible refine (HSK.out v0.drew (HUW0.out.trans HD0.out (fun _ _ h => h))).mono ?_; rintro r w5 ⟨rfl, hu⟩; have HP5 := As.mk (HD0.out.trans hu (fun _ _ h => h)); clear hu) | (go_at_call 15; refine (HSK.out _ ((HUW0.out.alloc _).drew)).mono ?_; rintro r w5 ⟨rfl, hu⟩; obtain ⟨hs5, hu5⟩ := up_one ((Upd.refl (fun _ => False) (v0.alloc _)).drew.trans hu (fun _ _ h => h)); have HS5 := As.mk hs5; have HP5 := As.mk hu5; have hbl5 : v0.heap.size < w5.heap.size := lt_of_block HS5.out; have hcf5 : ∀ i, w5.frozen? ⟨v0.heap.size, i, none⟩ = false := (fun i => by simp [World.frozen?, HS5.out]); obtain ⟨k0, k1, k2, k3⟩ := cells4 HS5.out; clear hu hs5 hu5)
                refine hK.out _ _ (fun _ => by with_reducible (first | exact HK8.out _ HD0.out | exact HK8.out _ HP5.out | exact HK8.out _ (HP5.out.alloc _) | exact HK8.out _ ((Upd.refl _ v0).alloc _).drew | exact HK8.out _ (set4_pure8 HP5.out (Nat.le_refl _) _ _ _ _))) (fun hHeld => ?_)
                replace hHeld := hHeld (by decide)
                clear hK K
                (try simp only [Act.put, List.setIfInBounds_toArray, List.set_cons_zero, List.set_cons_succ])
                refine zT 5 ?_
                (try simp only [Act.put, List.setIfInBounds_toArray, List.set_cons_zero, List.set_cons_succ])
                refine zT 10 ?_
                refine zT 11 ?_
                refine zT 12 ?_
                refine zT 13 ?_
                (try simp only [Act.put, List.setIfInBounds_toArray, List.set_cons_zero, List.set_cons_succ])
                refine zT 14 ?_
                refine zT 20 ?_
                refine oT 21 (fun K hK => ?_)
                go_simp
                refine hK.out _ _ (fun _ => by with_reducible (first | exact HK8.out _ HD0.out | exact HK8.out _ HP5.out | exact HK8.out _ (HP5.out.alloc _) | exact HK8.out _ ((Upd.refl _ v0).alloc _).drew | exact HK8.out _ (set4_pure8 HP5.out (Nat.le_refl _) _ _ _ _))) (fun hHeld => ?_)
                replace hHeld := hHeld (by decide)
                clear hK K
                (try simp only [Act.put, List.setIfInBounds_toArray, List.set_cons_zero, List.set_cons_succ])
                refine oT 22 (fun K hK => ?_)
                go_simp
                refine hK.out _ _ (fun h => absurd rfl h) (fun hHeld => ?_)
                clear hK K
                (try simp only [Act.put, List.setIfInBounds_toArray, List.set_cons_zero, List.set_cons_succ])
                refine wpAnyT_done (by kernel_rfl) ?_ _
              case' rw6b =>
                go_simp
                refine hK.out _ _ (fun _ => by with_reducible (first | exact HK8.out _ HD0.out | exact HK8.out _ HP5.out | exact HK8.out _ (HP5.out.alloc _) | exact HK8.out _ ((Upd.refl _ v0).alloc _).drew | exact HK8.out _ (set4_pure8 HP5.out (Nat.le_refl _) _ _ _ _))) (fun hHeld => ?_)
                replace hHeld := hHeld (by decide)
                clear hK K
                (try simp only [Act.put, List.setIfInBounds_toArray, List.set_cons_zero, List.set_cons_succ])
                refine oT 4 (fun K hK => ?_)
                go_simp
                first | (go_at_call 15; with_reducible refine (HSK.out v0.drew (HUW0.out.trans HD0.out (fun _ _ h => h))).mono ?_; rintro r w5 ⟨rfl, hu⟩; have HP5 := As.mk (HD0.out.trans hu (fun _ _ h => h)); clear hu) | (go_at_call 15; refine (HSK.out _ ((HUW0.out.alloc _).drew)).mono ?_; rintro r w5 ⟨rfl, hu⟩; obtain ⟨hs5, hu5⟩ := up_one ((Upd.refl (fun _ => False) (v0.alloc _)).drew.trans hu (fun _ _ h => h)); have HS5 := As.mk hs5; have HP5 := As.mk hu5; have hbl5 : v0.heap.size < w5.heap.size := lt_of_block HS5.out; have hcf5 : ∀ i, w5.frozen? ⟨v0.heap.size, i, none⟩ = false := (fun i => by simp [World.frozen?, HS5.out]); obtain ⟨k0, k1, k2, k3⟩ := cells4 HS5.out; clear hu hs5 hu5)
                refine hK.out _ _ (fun _ => by with_reducible (first | exact HK8.out _ HD0.out | exact HK8.out _ HP5.out | exact HK8.out _ (HP5.out.alloc _) | exact HK8.out _ ((Upd.refl _ v0).alloc _).drew | exact HK8.out _ (set4_pure8 HP5.out (Nat.le_refl _) _ _ _ _))) (fun hHeld => ?_)
                replace hHeld := hHeld (by decide)
                clear hK K
                (try simp only [Act.put, List.setIfInBounds_toArray, List.set_cons_zero, List.set_cons_succ])
                refine zT 5 ?_
                refine zT 10 ?_
                (try simp only [Act.put, List.setIfInBounds_toArray, List.set_cons_zero, List.set_cons_succ])
                refine zT 11 ?_
                refine zT 12 ?_
                refine zT 13 ?_
                refine zT 14 ?_
                (try simp only [Act.put, List.setIfInBounds_toArray, List.set_cons_zero, List.set_cons_succ])
                refine zT 20 ?_
                refine oT 22 (fun K hK => ?_)
                go_simp
                refine hK.out _ _ (fun h => absurd rfl h) (fun hHeld => ?_)
                clear hK K
                (try simp only [Act.put, List.setIfInBounds_toArray, List.set_cons_zero, List.set_cons_succ])
                refine wpAnyT_done (by kernel_rfl) ?_ _
              rotate_left
              · have HS9 := As.mk (heap_alloc_new w5 (.cells #[.int .i64 (x.at0 + dk), .bool false, .int .i64 (k : Nat), .int .i64 (p - x.at0)] 31))
                have HU9 := As.mk (HP5.out.alloc (.cells #[.int .i64 (x.at0 + dk), .bool false, .int .i64 (k : Nat), .int .i64 (p - x.at0)] 31))
                have HL9 := As.mk (show wr.heap.size < w5.heap.size from Nat.lt_of_lt_of_le (lt_of_block HRB0.out) HP5.out.size)
                iterate 6 (try clear hHeld)
                generalize w5.alloc (.cells #[.int .i64 (x.at0 + dk), .bool false, .int .i64 (k : Nat), .int .i64 (p - x.at0)] 31) = v9 at *
                generalize w5.heap.size = sb at *
                have HB9 := As.mk ((HU9.out.block w.heap.size (lt_of_block HB0.out) (fun h => h)).trans HB0.out)
                have HR9 := As.mk ((HU9.out.block wr.heap.size (lt_of_block HRB0.out) (fun h => h)).trans HRB0.out)
                have HUW9 := As.mk (HUW0.out.trans HU9.out (fun _ _ h => h))
                have hne1 : w.heap.size ≠ sb := by have := HL0.out; have := HL9.out; omega
                have hne2 : wr.heap.size ≠ sb := by have := HL9.out; omega
                have hb9 : w.heap.size < v9.heap.size := lt_of_block HB9.out
                have hcf9 : ∀ i, v9.frozen? ⟨w.heap.size, i, none⟩ = false := fun i => by simp [World.frozen?, HB9.out]
                have hs9 : sb < v9.heap.size := lt_of_block HS9.out
                have hcs9 : ∀ i, v9.frozen? ⟨sb, i, none⟩ = false := fun i => by simp [World.frozen?, HS9.out]
                have hr9 : wr.heap.size < v9.heap.size := lt_of_block HR9.out
                obtain ⟨s0, s1, s2, s3⟩ := cells4 HS9.out
                obtain ⟨z0, z1, z2, z3⟩ := cells4 HB9.out
                obtain ⟨y0, y1, y2⟩ := cells3r HR9.out
                clear r0 r1 r2
                go_wp2
                exact bodyPost_ret (spot_end (rb := w.heap.size) rfl _ rfl (set4 (rb := w.heap.size) (by (try simp only [heap_other hne1]); exact HB9.out) _ _ _ _)) rfl ⟨⟨_, _, _, by rw [HVV.out]; rfl⟩, set4_pure8 (by repeat (first | exact HUW9.out | refine Upd.setCell ?_ (fun h => absurd h (by show ¬ sb < w.heap.size; have := HL0.out; have := HL9.out; omega)) _)) (Nat.le_refl _) _ _ _ _⟩
              · have HS9 := As.mk (set4 HS5.out (.int .i64 (x.at0 + dk)) (.bool false) (.int .i64 (k : Nat)) (.int .i64 (p - x.at0)))
                have HU9 := As.mk (set4_pure8 HP5.out (Nat.le_refl _) (.int .i64 (x.at0 + dk)) (.bool false) (.int .i64 (k : Nat)) (.int .i64 (p - x.at0)))
                have HL9 := As.mk (show wr.heap.size < v0.heap.size from lt_of_block HRB0.out)
                iterate 6 (try clear hHeld)
                clear k0 k1 k2 k3 hbl5 hcf5
                generalize ((((w5.setCell ⟨v0.heap.size, 0, none⟩ (.int .i64 (x.at0 + dk))).setCell ⟨v0.heap.size, 1, none⟩ (.bool false)).setCell ⟨v0.heap.size, 2, none⟩ (.int .i64 (k : Nat))).setCell ⟨v0.heap.size, 3, none⟩ (.int .i64 (p - x.at0))) = v9 at *
                generalize v0.heap.size = sb at *
                have HB9 := As.mk ((HU9.out.block w.heap.size (lt_of_block HB0.out) (fun h => h)).trans HB0.out)
                have HR9 := As.mk ((HU9.out.block wr.heap.size (lt_of_block HRB0.out) (fun h => h)).trans HRB0.out)
                have HUW9 := As.mk (HUW0.out.trans HU9.out (fun _ _ h => h))
                have hne1 : w.heap.size ≠ sb := by have := HL0.out; have := HL9.out; omega
                have hne2 : wr.heap.size ≠ sb := by have := HL9.out; omega
                have hb9 : w.heap.size < v9.heap.size := lt_of_block HB9.out
                have hcf9 : ∀ i, v9.frozen? ⟨w.heap.size, i, none⟩ = false := fun i => by simp [World.frozen?, HB9.out]
                have hs9 : sb < v9.heap.size := lt_of_block HS9.out
                have hcs9 : ∀ i, v9.frozen? ⟨sb, i, none⟩ = false := fun i => by simp [World.frozen?, HS9.out]
                have hr9 : wr.heap.size < v9.heap.size := lt_of_block HR9.out
                obtain ⟨s0, s1, s2, s3⟩ := cells4 HS9.out
                obtain ⟨z0, z1, z2, z3⟩ := cells4 HB9.out
                obtain ⟨y0, y1, y2⟩ := cells3r HR9.out
                clear r0 r1 r2
                go_wp2
                exact bodyPost_ret (spot_end (rb := w.heap.size) rfl _ rfl (set4 (rb := w.heap.size) (by (try simp only [heap_other hne1]); exact HB9.out) _ _ _ _)) rfl ⟨⟨_, _, _, by rw [HVV.out]; rfl⟩, set4_pure8 (by repeat (first | exact HUW9.out | refine Upd.setCell ?_ (fun h => absurd h (by show ¬ sb < w.heap.size; have := HL0.out; have := HL9.out; omega)) _)) (Nat.le_refl _) _ _ _ _⟩
          · by_cases hsd : side < 0
            · have g1 : ¬ 0 ≤ side := by omega
              have f1 : 0 < x.old := by omega
              have f2 : (p == x.at0) = false := by simp; omega
              have f3 : (p == x.at0 + x.old) = false := by simp; omega
              have f4 : x.at0 < p := by omega
              have f5 : p < x.at0 + x.old := by omega
              have HVV := As.mk (show mapGo p side 0 m = x.at0 + dk by have h9 := HV.out; rw [inAt_3 hK.1 hK.2.1 hK.2.2, if_pos hsd] at h9; omega)
              clear hb hK HV hdl
              go_wp2
              have HRB0 := As.mk (heap_alloc_new wr (.cells #[.int .i64 x.at0, .int .i64 x.old, .int .i64 x.new] 47))
              have HU0 := As.mk (HW.out.alloc (.cells #[.int .i64 x.at0, .int .i64 x.old, .int .i64 x.new] 47))
              have HB0 := As.mk ((HU0.out.block w.heap.size (lt_of_block HB1.out) (fun h => h)).trans HB1.out)
              have HL0 := As.mk (show w.heap.size < wr.heap.size from lt_of_block ((HW.out.block w.heap.size (lt_of_block HB1.out) (fun h => h)).trans HB1.out))
              have HUW0 := As.mk (HU1.out.trans HU0.out (fun _ _ h => h))
              generalize wr.alloc (.cells #[.int .i64 x.at0, .int .i64 x.old, .int .i64 x.new] 47) = v0 at *
              obtain ⟨r0, r1, r2⟩ := cells3r HRB0.out
              have HK8 := As.mk (fun v (hu : Pure v0 v) => (cells3r ((hu.block wr.heap.size (lt_of_block HRB0.out) (fun h => h)).trans HRB0.out) : (fun v => v.cell? ⟨wr.heap.size, 0, none⟩ = some (.int .i64 x.at0) ∧ v.cell? ⟨wr.heap.size, 1, none⟩ = some (.int .i64 x.old) ∧ v.cell? ⟨wr.heap.size, 2, none⟩ = some (.int .i64 x.new)) v))
              have HD0 := As.mk (show Pure v0 v0.drew from (Upd.refl _ _).drew)
              refine wp_region_T (P := Tryd.prog) (fun v => v.cell? ⟨wr.heap.size, 0, none⟩ = some (.int .i64 x.at0) ∧ v.cell? ⟨wr.heap.size, 1, none⟩ = some (.int .i64 x.old) ∧ v.cell? ⟨wr.heap.size, 2, none⟩ = some (.int .i64 x.new)) 22 (by kernel_rfl) ?_ (fun hHeld => ?_)
              · with_reducible (first | exact HK8.out _ HD0.out | exact HK8.out _ HP5.out | exact HK8.out _ (HP5.out.alloc _) | exact HK8.out _ ((Upd.refl _ v0).alloc _).drew | exact HK8.out _ (set4_pure8 HP5.out (Nat.le_refl _) _ _ _ _))
              refine zT 0 ?_
              refine zT 1 ?_
              (try simp only [Act.put, List.setIfInBounds_toArray, List.set_cons_zero, List.set_cons_succ])
              refine zT 2 ?_
              refine zT 3 ?_
              refine zT 6 ?_
              refine zT 7 ?_
              (try simp only [Act.put, List.setIfInBounds_toArray, List.set_cons_zero, List.set_cons_succ])
              refine zT 8 ?_
              refine zT 9 ?_
              refine zT 15 ?_
              refine zT 16 ?_
              (try simp only [Act.put, List.setIfInBounds_toArray, List.set_cons_zero, List.set_cons_succ])
              refine zT 17 ?_
              refine zT 18 ?_
              refine zT 19 ?_
              refine wpAnyT_two (i := 4) (j := 21) (o1 := { dst := (some 72), op := (Go.Op.call { callee := (Go.Callee.value (Go.Operand.func 15)), args := #[(Go.Operand.tmp 70), (Go.Operand.tmp 71)], argTypes := #[22, 3] }), type := 3, pos := "ref.go:57", after := #[{ on := 2, ground := Go.Ground.data }, { on := 3, ground := Go.Ground.data }], guard := none }) (o2 := { dst := (some 12), op := (Go.Op.alloc 31), type := 0, pos := "ref.go:57", after := #[], guard := none }) (by kernel_rfl) rfl rfl (fun K hK => ?rw7a) (fun K hK => ?rw7b)
              case' rw7a =>
                go_simp
                first | (go_at_call 15; with_reducible refine (HSK.out v0.drew (HUW0.out.trans HD0.out (fun _ _ h => h))).mono ?_; rintro r w5 ⟨rfl, hu⟩; have HP5 := As.mk (HD0.out.trans hu (fun _ _ h => h)); clear hu) | (go_at_call 15; refine (HSK.out _ ((HUW0.out.alloc _).drew)).mono ?_; rintro r w5 ⟨rfl, hu⟩; obtain ⟨hs5, hu5⟩ := up_one ((Upd.refl (fun _ => False) (v0.alloc _)).drew.trans hu (fun _ _ h => h)); have HS5 := As.mk hs5; have HP5 := As.mk hu5; have hbl5 : v0.heap.size < w5.heap.size := lt_of_block HS5.out; have hcf5 : ∀ i, w5.frozen? ⟨v0.heap.size, i, none⟩ = false := (fun i => by simp [World.frozen?, HS5.out]); obtain ⟨k0, k1, k2, k3⟩ := cells4 HS5.out; clear hu hs5 hu5)
                refine hK.out _ _ (fun _ => by with_reducible (first | exact HK8.out _ HD0.out | exact HK8.out _ HP5.out | exact HK8.out _ (HP5.out.alloc _) | exact HK8.out _ ((Upd.refl _ v0).alloc _).drew | exact HK8.out _ (set4_pure8 HP5.out (Nat.le_refl _) _ _ _ _))) (fun hHeld => ?_)
                replace hHeld := hHeld (by decide)
                clear hK K
                (try simp only [Act.put, List.setIfInBounds_toArray, List.set_cons_zero, List.set_cons_succ])
                refine zT 5 ?_
                refine zT 10 ?_
                refine zT 11 ?_
                refine zT 12 ?_
                (try simp only [Act.put, List.setIfInBounds_toArray, List.set_cons_zero, List.set_cons_succ])
                refine zT 13 ?_
                refine zT 14 ?_
                refine zT 20 ?_
                refine oT 21 (fun K hK => ?_)
                go_simp
                refine hK.out _ _ (fun _ => by with_reducible (first | exact HK8.out _ HD0.out | exact HK8.out _ HP5.out | exact HK8.out _ (HP5.out.alloc _) | exact HK8.out _ ((Upd.refl _ v0).alloc _).drew | exact HK8.out _ (set4_pure8 HP5.out (Nat.le_refl _) _ _ _ _))) (fun hHeld => ?_)
                replace hHeld := hHeld (by decide)
                clear hK K
                (try simp only [Act.put, List.setIfInBounds_toArray, List.set_cons_zero, List.set_cons_succ])
                refine oT 22 (fun K hK => ?_)
                go_simp
                refine hK.out _ _ (fun h => absurd rfl h) (fun hHeld => ?_)
                clear hK K
                (try simp only [Act.put, List.setIfInBounds_toArray, List.set_cons_zero, List.set_cons_succ])
                refine wpAnyT_done (by kernel_rfl) ?_ _
              case' rw7b =>
                go_simp
                refine hK.out _ _ (fun _ => by with_reducible (first | exact HK8.out _ HD0.out | exact HK8.out _ HP5.out | exact HK8.out _ (HP5.out.alloc _) | exact HK8.out _ ((Upd.refl _ v0).alloc _).drew | exact HK8.out _ (set4_pure8 HP5.out (Nat.le_refl _) _ _ _ _))) (fun hHeld => ?_)
                replace hHeld := hHeld (by decide)
                clear hK K
                (try simp only [Act.put, List.setIfInBounds_toArray, List.set_cons_zero, List.set_cons_succ])
                refine oT 4 (fun K hK => ?_)
                go_simp
                first | (go_at_call 15; with_reducible refine (HSK.out v0.drew (HUW0.out.trans HD0.out (fun _ _ h => h))).mono ?_; rintro r w5 ⟨rfl, hu⟩; have HP5 := As.mk (HD0.out.trans hu (fun _ _ h => h)); clear hu) | (go_at_call 15; refine (HSK.out _ ((HUW0.out.alloc _).drew)).mono ?_; rintro r w5 ⟨rfl, hu⟩; obtain ⟨hs5, hu5⟩ := up_one ((Upd.refl (fun _ => False) (v0.alloc _)).drew.trans hu (fun _ _ h => h)); have HS5 := As.mk hs5; have HP5 := As.mk hu5; have hbl5 : v0.heap.size < w5.heap.size := lt_of_block HS5.out; have hcf5 : ∀ i, w5.frozen? ⟨v0.heap.size, i, none⟩ = false := (fun i => by simp [World.frozen?, HS5.out]); obtain ⟨k0, k1, k2, k3⟩ := cells4 HS5.out; clear hu hs5 hu5)
                refine hK.out _ _ (fun _ => by with_reducible (first | exact HK8.out _ HD0.out | exact HK8.out _ HP5.out | exact HK8.out _ (HP5.out.alloc _) | exact HK8.out _ ((Upd.refl _ v0).alloc _).drew | exact HK8.out _ (set4_pure8 HP5.out (Nat.le_refl _) _ _ _ _))) (fun hHeld => ?_)
                replace hHeld := hHeld (by decide)
                clear hK K
                (try simp only [Act.put, List.setIfInBounds_toArray, List.set_cons_zero, List.set_cons_succ])
                refine zT 5 ?_
                (try simp only [Act.put, List.setIfInBounds_toArray, List.set_cons_zero, List.set_cons_succ])
                refine zT 10 ?_
                refine zT 11 ?_
                refine zT 12 ?_
                refine zT 13 ?_
                (try simp only [Act.put, List.setIfInBounds_toArray, List.set_cons_zero, List.set_cons_succ])
                refine zT 14 ?_
                refine zT 20 ?_
                refine oT 22 (fun K hK => ?_)
                go_simp
                refine hK.out _ _ (fun h => absurd rfl h) (fun hHeld => ?_)
                clear hK K
                (try simp only [Act.put, List.setIfInBounds_toArray, List.set_cons_zero, List.set_cons_succ])
                refine wpAnyT_done (by kernel_rfl) ?_ _
              rotate_left
              · have HS9 := As.mk (heap_alloc_new w5 (.cells #[.int .i64 (x.at0 + dk), .bool true, .int .i64 (k : Nat), .int .i64 (p - x.at0)] 31))
                have HU9 := As.mk (HP5.out.alloc (.cells #[.int .i64 (x.at0 + dk), .bool true, .int .i64 (k : Nat), .int .i64 (p - x.at0)] 31))
                have HL9 := As.mk (show wr.heap.size < w5.heap.size from Nat.lt_of_lt_of_le (lt_of_block HRB0.out) HP5.out.size)
                iterate 6 (try clear hHeld)
                generalize w5.alloc (.cells #[.int .i64 (x.at0 + dk), .bool true, .int .i64 (k : Nat), .int .i64 (p - x.at0)] 31) = v9 at *
                generalize w5.heap.size = sb at *
                have HB9 := As.mk ((HU9.out.block w.heap.size (lt_of_block HB0.out) (fun h => h)).trans HB0.out)
                have HR9 := As.mk ((HU9.out.block wr.heap.size (lt_of_block HRB0.out) (fun h => h)).trans HRB0.out)
                have HUW9 := As.mk (HUW0.out.trans HU9.out (fun _ _ h => h))
                have hne1 : w.heap.size ≠ sb := by have := HL0.out; have := HL9.out; omega
                have hne2 : wr.heap.size ≠ sb := by have := HL9.out; omega
                have hb9 : w.heap.size < v9.heap.size := lt_of_block HB9.out
                have hcf9 : ∀ i, v9.frozen? ⟨w.heap.size, i, none⟩ = false := fun i => by simp [World.frozen?, HB9.out]
                have hs9 : sb < v9.heap.size := lt_of_block HS9.out
                have hcs9 : ∀ i, v9.frozen? ⟨sb, i, none⟩ = false := fun i => by simp [World.frozen?, HS9.out]
                have hr9 : wr.heap.size < v9.heap.size := lt_of_block HR9.out
                obtain ⟨s0, s1, s2, s3⟩ := cells4 HS9.out
                obtain ⟨z0, z1, z2, z3⟩ := cells4 HB9.out
                obtain ⟨y0, y1, y2⟩ := cells3r HR9.out
                clear r0 r1 r2
                go_wp2
                exact bodyPost_ret (spot_end (rb := w.heap.size) rfl _ rfl (set4 (rb := w.heap.size) (by (try simp only [heap_other hne1]); exact HB9.out) _ _ _ _)) rfl ⟨⟨_, _, _, by rw [HVV.out]; rfl⟩, set4_pure8 (by repeat (first | exact HUW9.out | refine Upd.setCell ?_ (fun h => absurd h (by show ¬ sb < w.heap.size; have := HL0.out; have := HL9.out; omega)) _)) (Nat.le_refl _) _ _ _ _⟩
              · have HS9 := As.mk (set4 HS5.out (.int .i64 (x.at0 + dk)) (.bool true) (.int .i64 (k : Nat)) (.int .i64 (p - x.at0)))
                have HU9 := As.mk (set4_pure8 HP5.out (Nat.le_refl _) (.int .i64 (x.at0 + dk)) (.bool true) (.int .i64 (k : Nat)) (.int .i64 (p - x.at0)))
                have HL9 := As.mk (show wr.heap.size < v0.heap.size from lt_of_block HRB0.out)
                iterate 6 (try clear hHeld)
                clear k0 k1 k2 k3 hbl5 hcf5
                generalize ((((w5.setCell ⟨v0.heap.size, 0, none⟩ (.int .i64 (x.at0 + dk))).setCell ⟨v0.heap.size, 1, none⟩ (.bool true)).setCell ⟨v0.heap.size, 2, none⟩ (.int .i64 (k : Nat))).setCell ⟨v0.heap.size, 3, none⟩ (.int .i64 (p - x.at0))) = v9 at *
                generalize v0.heap.size = sb at *
                have HB9 := As.mk ((HU9.out.block w.heap.size (lt_of_block HB0.out) (fun h => h)).trans HB0.out)
                have HR9 := As.mk ((HU9.out.block wr.heap.size (lt_of_block HRB0.out) (fun h => h)).trans HRB0.out)
                have HUW9 := As.mk (HUW0.out.trans HU9.out (fun _ _ h => h))
                have hne1 : w.heap.size ≠ sb := by have := HL0.out; have := HL9.out; omega
                have hne2 : wr.heap.size ≠ sb := by have := HL9.out; omega
                have hb9 : w.heap.size < v9.heap.size := lt_of_block HB9.out
                have hcf9 : ∀ i, v9.frozen? ⟨w.heap.size, i, none⟩ = false := fun i => by simp [World.frozen?, HB9.out]
                have hs9 : sb < v9.heap.size := lt_of_block HS9.out
                have hcs9 : ∀ i, v9.frozen? ⟨sb, i, none⟩ = false := fun i => by simp [World.frozen?, HS9.out]
                have hr9 : wr.heap.size < v9.heap.size := lt_of_block HR9.out
                obtain ⟨s0, s1, s2, s3⟩ := cells4 HS9.out
                obtain ⟨z0, z1, z2, z3⟩ := cells4 HB9.out
                obtain ⟨y0, y1, y2⟩ := cells3r HR9.out
                clear r0 r1 r2
                go_wp2
                exact bodyPost_ret (spot_end (rb := w.heap.size) rfl _ rfl (set4 (rb := w.heap.size) (by (try simp only [heap_other hne1]); exact HB9.out) _ _ _ _)) rfl ⟨⟨_, _, _, by rw [HVV.out]; rfl⟩, set4_pure8 (by repeat (first | exact HUW9.out | refine Upd.setCell ?_ (fun h => absurd h (by show ¬ sb < w.heap.size; have := HL0.out; have := HL9.out; omega)) _)) (Nat.le_refl _) _ _ _ _⟩
            · have g1 : 0 ≤ side := by omega
              have f1 : 0 < x.old := by omega
              have f2 : (p == x.at0) = false := by simp; omega
              have f3 : (p == x.at0 + x.old) = false := by simp; omega
              have f4 : x.at0 < p := by omega
              have f5 : p < x.at0 + x.old := by omega
              have HVV := As.mk (show mapGo p side 0 m = x.at0 + dk + x.new by have h9 := HV.out; rw [inAt_3 hK.1 hK.2.1 hK.2.2, if_neg hsd] at h9; omega)
              clear hb hK HV hdl
              go_wp2
              have HRB0 := As.mk (heap_alloc_new wr (.cells #[.int .i64 x.at0, .int .i64 x.old, .int .i64 x.new] 47))
              have HU0 := As.mk (HW.out.alloc (.cells #[.int .i64 x.at0, .int .i64 x.old, .int .i64 x.new] 47))
              have HB0 := As.mk ((HU0.out.block w.heap.size (lt_of_block HB1.out) (fun h => h)).trans HB1.out)
              have HL0 := As.mk (show w.heap.size < wr.heap.size from lt_of_block ((HW.out.block w.heap.size (lt_of_block HB1.out) (fun h => h)).trans HB1.out))
              have HUW0 := As.mk (HU1.out.trans HU0.out (fun _ _ h => h))
              generalize wr.alloc (.cells #[.int .i64 x.at0, .int .i64 x.old, .int .i64 x.new] 47) = v0 at *
              obtain ⟨r0, r1, r2⟩ := cells3r HRB0.out
              have HK8 := As.mk (fun v (hu : Pure v0 v) => (cells3r ((hu.block wr.heap.size (lt_of_block HRB0.out) (fun h => h)).trans HRB0.out) : (fun v => v.cell? ⟨wr.heap.size, 0, none⟩ = some (.int .i64 x.at0) ∧ v.cell? ⟨wr.heap.size, 1, none⟩ = some (.int .i64 x.old) ∧ v.cell? ⟨wr.heap.size, 2, none⟩ = some (.int .i64 x.new)) v))
              have HD0 := As.mk (show Pure v0 v0.drew from (Upd.refl _ _).drew)
              refine wp_region_T (P := Tryd.prog) (fun v => v.cell? ⟨wr.heap.size, 0, none⟩ = some (.int .i64 x.at0) ∧ v.cell? ⟨wr.heap.size, 1, none⟩ = some (.int .i64 x.old) ∧ v.cell? ⟨wr.heap.size, 2, none⟩ = some (.int .i64 x.new)) 22 (by kernel_rfl) ?_ (fun hHeld => ?_)
              · with_reducible (first | exact HK8.out _ HD0.out | exact HK8.out _ HP5.out | exact HK8.out _ (HP5.out.alloc _) | exact HK8.out _ ((Upd.refl _ v0).alloc _).drew | exact HK8.out _ (set4_pure8 HP5.out (Nat.le_refl _) _ _ _ _))
              refine zT 0 ?_
              (try simp only [Act.put, List.setIfInBounds_toArray, List.set_cons_zero, List.set_cons_succ])
              refine zT 1 ?_
              refine zT 2 ?_
              refine zT 3 ?_
              refine zT 6 ?_
              (try simp only [Act.put, List.setIfInBounds_toArray, List.set_cons_zero, List.set_cons_succ])
              refine zT 7 ?_
              refine zT 8 ?_
              refine zT 9 ?_
              refine zT 15 ?_
              (try simp only [Act.put, List.setIfInBounds_toArray, List.set_cons_zero, List.set_cons_succ])
              refine zT 16 ?_
              refine zT 17 ?_
              refine zT 18 ?_
              refine zT 19 ?_
              (try simp only [Act.put, List.setIfInBounds_toArray, List.set_cons_zero, List.set_cons_succ])
              refine wpAnyT_two (i := 4) (j := 21) (o1 := { dst := (some 72), op := (Go.Op.call { callee := (Go.Callee.value (Go.Operand.func 15)), args := #[(Go.Operand.tmp 70), (Go.Operand.tmp 71)], argTypes := #[22, 3] }), type := 3, pos := "ref.go:57", after := #[{ on := 2, ground := Go.Ground.data }, { on := 3, ground := Go.Ground.data }], guard := none }) (o2 := { dst := (some 12), op := (Go.Op.alloc 31), type := 0, pos := "ref.go:57", after := #[], guard := none }) (by kernel_rfl) rfl rfl (fun K hK => ?rw8a) (fun K hK => ?rw8b)
              case' rw8a =>
                go_simp
                first | (go_at_call 15; with_reducible refine (HSK.out v0.drew (HUW0.out.trans HD0.out (fun _ _ h => h))).mono ?_; rintro r w5 ⟨rfl, hu⟩; have HP5 := As.mk (HD0.out.trans hu (fun _ _ h => h)); clear hu) | (go_at_call 15; refine (HSK.out _ ((HUW0.out.alloc _).drew)).mono ?_; rintro r w5 ⟨rfl, hu⟩; obtain ⟨hs5, hu5⟩ := up_one ((Upd.refl (fun _ => False) (v0.alloc _)).drew.trans hu (fun _ _ h => h)); have HS5 := As.mk hs5; have HP5 := As.mk hu5; have hbl5 : v0.heap.size < w5.heap.size := lt_of_block HS5.out; have hcf5 : ∀ i, w5.frozen? ⟨v0.heap.size, i, none⟩ = false := (fun i => by simp [World.frozen?, HS5.out]); obtain ⟨k0, k1, k2, k3⟩ := cells4 HS5.out; clear hu hs5 hu5)
                refine hK.out _ _ (fun _ => by with_reducible (first | exact HK8.out _ HD0.out | exact HK8.out _ HP5.out | exact HK8.out _ (HP5.out.alloc _) | exact HK8.out _ ((Upd.refl _ v0).alloc _).drew | exact HK8.out _ (set4_pure8 HP5.out (Nat.le_refl _) _ _ _ _))) (fun hHeld => ?_)
                replace hHeld := hHeld (by decide)
                clear hK K
                (try simp only [Act.put, List.setIfInBounds_toArray, List.set_cons_zero, List.set_cons_succ])
                refine zT 5 ?_
                refine zT 10 ?_
                refine zT 11 ?_
                (try simp only [Act.put, List.setIfInBounds_toArray, List.set_cons_zero, List.set_cons_succ])
                refine zT 12 ?_
                refine zT 13 ?_
                refine zT 14 ?_
                refine zT 20 ?_
                (try simp only [Act.put, List.setIfInBounds_toArray, List.set_cons_zero, List.set_cons_succ])
                refine oT 21 (fun K hK => ?_)
                go_simp
                refine hK.out _ _ (fun _ => by with_reducible (first | exact HK8.out _ HD0.out | exact HK8.out _ HP5.out | exact HK8.out _ (HP5.out.alloc _) | exact HK8.out _ ((Upd.refl _ v0).alloc _).drew | exact HK8.out _ (set4_pure8 HP5.out (Nat.le_refl _) _ _ _ _))) (fun hHeld => ?_)
                replace hHeld := hHeld (by decide)
                clear hK K
                (try simp only [Act.put, List.setIfInBounds_toArray, List.set_cons_zero, List.set_cons_succ])
                refine oT 22 (fun K hK => ?_)
                go_simp
                refine hK.out _ _ (fun h => absurd rfl h) (fun hHeld => ?_)
                clear hK K
                (try simp only [Act.put, List.setIfInBounds_toArray, List.set_cons_zero, List.set_cons_succ])
                refine wpAnyT_done (by kernel_rfl) ?_ _
              case' rw8b =>
                go_simp
                refine hK.out _ _ (fun _ => by with_reducible (first | exact HK8.out _ HD0.out | exact HK8.out _ HP5.out | exact HK8.out _ (HP5.out.alloc _) | exact HK8.out _ ((Upd.refl _ v0).alloc _).drew | exact HK8.out _ (set4_pure8 HP5.out (Nat.le_refl _) _ _ _ _))) (fun hHeld => ?_)
                replace hHeld := hHeld (by decide)
                clear hK K
                (try simp only [Act.put, List.setIfInBounds_toArray, List.set_cons_zero, List.set_cons_succ])
                refine oT 4 (fun K hK => ?_)
                go_simp
                first | (go_at_call 15; with_reducible refine (HSK.out v0.drew (HUW0.out.trans HD0.out (fun _ _ h => h))).mono ?_; rintro r w5 ⟨rfl, hu⟩; have HP5 := As.mk (HD0.out.trans hu (fun _ _ h => h)); clear hu) | (go_at_call 15; refine (HSK.out _ ((HUW0.out.alloc _).drew)).mono ?_; rintro r w5 ⟨rfl, hu⟩; obtain ⟨hs5, hu5⟩ := up_one ((Upd.refl (fun _ => False) (v0.alloc _)).drew.trans hu (fun _ _ h => h)); have HS5 := As.mk hs5; have HP5 := As.mk hu5; have hbl5 : v0.heap.size < w5.heap.size := lt_of_block HS5.out; have hcf5 : ∀ i, w5.frozen? ⟨v0.heap.size, i, none⟩ = false := (fun i => by simp [World.frozen?, HS5.out]); obtain ⟨k0, k1, k2, k3⟩ := cells4 HS5.out; clear hu hs5 hu5)
                refine hK.out _ _ (fun _ => by with_reducible (first | exact HK8.out _ HD0.out | exact HK8.out _ HP5.out | exact HK8.out _ (HP5.out.alloc _) | exact HK8.out _ ((Upd.refl _ v0).alloc _).drew | exact HK8.out _ (set4_pure8 HP5.out (Nat.le_refl _) _ _ _ _))) (fun hHeld => ?_)
                replace hHeld := hHeld (by decide)
                clear hK K
                (try simp only [Act.put, List.setIfInBounds_toArray, List.set_cons_zero, List.set_cons_succ])
                refine zT 5 ?_
                refine zT 10 ?_
                refine zT 11 ?_
                refine zT 12 ?_
                (try simp only [Act.put, List.setIfInBounds_toArray, List.set_cons_zero, List.set_cons_succ])
                refine zT 13 ?_
                refine zT 14 ?_
                refine zT 20 ?_
                refine oT 22 (fun K hK => ?_)
                go_simp
                refine hK.out _ _ (fun h => absurd rfl h) (fun hHeld => ?_)
                clear hK K
                (try simp only [Act.put, List.setIfInBounds_toArray, List.set_cons_zero, List.set_cons_succ])
                refine wpAnyT_done (by kernel_rfl) ?_ _
              rotate_left
              · have HS9 := As.mk (heap_alloc_new w5 (.cells #[.int .i64 (x.at0 + dk), .bool true, .int .i64 (k : Nat), .int .i64 (p - x.at0)] 31))
                have HU9 := As.mk (HP5.out.alloc (.cells #[.int .i64 (x.at0 + dk), .bool true, .int .i64 (k : Nat), .int .i64 (p - x.at0)] 31))
                have HL9 := As.mk (show wr.heap.size < w5.heap.size from Nat.lt_of_lt_of_le (lt_of_block HRB0.out) HP5.out.size)
                iterate 6 (try clear hHeld)
                generalize w5.alloc (.cells #[.int .i64 (x.at0 + dk), .bool true, .int .i64 (k : Nat), .int .i64 (p - x.at0)] 31) = v9 at *
                generalize w5.heap.size = sb at *
                have HB9 := As.mk ((HU9.out.block w.heap.size (lt_of_block HB0.out) (fun h => h)).trans HB0.out)
                have HR9 := As.mk ((HU9.out.block wr.heap.size (lt_of_block HRB0.out) (fun h => h)).trans HRB0.out)
                have HUW9 := As.mk (HUW0.out.trans HU9.out (fun _ _ h => h))
                have hne1 : w.heap.size ≠ sb := by have := HL0.out; have := HL9.out; omega
                have hne2 : wr.heap.size ≠ sb := by have := HL9.out; omega
                have hb9 : w.heap.size < v9.heap.size := lt_of_block HB9.out
                have hcf9 : ∀ i, v9.frozen? ⟨w.heap.size, i, none⟩ = false := fun i => by simp [World.frozen?, HB9.out]
                have hs9 : sb < v9.heap.size := lt_of_block HS9.out
                have hcs9 : ∀ i, v9.frozen? ⟨sb, i, none⟩ = false := fun i => by simp [World.frozen?, HS9.out]
                have hr9 : wr.heap.size < v9.heap.size := lt_of_block HR9.out
                obtain ⟨s0, s1, s2, s3⟩ := cells4 HS9.out
                obtain ⟨z0, z1, z2, z3⟩ := cells4 HB9.out
                obtain ⟨y0, y1, y2⟩ := cells3r HR9.out
                clear r0 r1 r2
                go_wp2
                exact bodyPost_ret (spot_end (rb := w.heap.size) rfl _ rfl (set4 (rb := w.heap.size) (by (try simp only [heap_other hne1]); exact HB9.out) _ _ _ _)) rfl ⟨⟨_, _, _, by rw [HVV.out]; rfl⟩, set4_pure8 (by repeat (first | exact HUW9.out | refine Upd.setCell ?_ (fun h => absurd h (by show ¬ sb < w.heap.size; have := HL0.out; have := HL9.out; omega)) _)) (Nat.le_refl _) _ _ _ _⟩
              · have HS9 := As.mk (set4 HS5.out (.int .i64 (x.at0 + dk)) (.bool true) (.int .i64 (k : Nat)) (.int .i64 (p - x.at0)))
                have HU9 := As.mk (set4_pure8 HP5.out (Nat.le_refl _) (.int .i64 (x.at0 + dk)) (.bool true) (.int .i64 (k : Nat)) (.int .i64 (p - x.at0)))
                have HL9 := As.mk (show wr.heap.size < v0.heap.size from lt_of_block HRB0.out)
                iterate 6 (try clear hHeld)
                clear k0 k1 k2 k3 hbl5 hcf5
                generalize ((((w5.setCell ⟨v0.heap.size, 0, none⟩ (.int .i64 (x.at0 + dk))).setCell ⟨v0.heap.size, 1, none⟩ (.bool true)).setCell ⟨v0.heap.size, 2, none⟩ (.int .i64 (k : Nat))).setCell ⟨v0.heap.size, 3, none⟩ (.int .i64 (p - x.at0))) = v9 at *
                generalize v0.heap.size = sb at *
                have HB9 := As.mk ((HU9.out.block w.heap.size (lt_of_block HB0.out) (fun h => h)).trans HB0.out)
                have HR9 := As.mk ((HU9.out.block wr.heap.size (lt_of_block HRB0.out) (fun h => h)).trans HRB0.out)
                have HUW9 := As.mk (HUW0.out.trans HU9.out (fun _ _ h => h))
                have hne1 : w.heap.size ≠ sb := by have := HL0.out; have := HL9.out; omega
                have hne2 : wr.heap.size ≠ sb := by have := HL9.out; omega
                have hb9 : w.heap.size < v9.heap.size := lt_of_block HB9.out
                have hcf9 : ∀ i, v9.frozen? ⟨w.heap.size, i, none⟩ = false := fun i => by simp [World.frozen?, HB9.out]
                have hs9 : sb < v9.heap.size := lt_of_block HS9.out
                have hcs9 : ∀ i, v9.frozen? ⟨sb, i, none⟩ = false := fun i => by simp [World.frozen?, HS9.out]
                have hr9 : wr.heap.size < v9.heap.size := lt_of_block HR9.out
                obtain ⟨s0, s1, s2, s3⟩ := cells4 HS9.out
                obtain ⟨z0, z1, z2, z3⟩ := cells4 HB9.out
                obtain ⟨y0, y1, y2⟩ := cells3r HR9.out
                clear r0 r1 r2
                go_wp2
                exact bodyPost_ret (spot_end (rb := w.heap.size) rfl _ rfl (set4 (rb := w.heap.size) (by (try simp only [heap_other hne1]); exact HB9.out) _ _ _ _)) rfl ⟨⟨_, _, _, by rw [HVV.out]; rfl⟩, set4_pure8 (by repeat (first | exact HUW9.out | refine Upd.setCell ?_ (fun h => absurd h (by show ¬ sb < w.heap.size; have := HL0.out; have := HL9.out; omega)) _)) (Nat.le_refl _) _ _ _ _⟩
    · obtain rfl : k = m.length := by omega
      have HUR := As.mk (HU1.out.trans HW.out (fun _ _ h => h))
      go_wp2
      go_loopg [13] m.length (fun g iv wx => ∃ n : Nat, n + g = m.length ∧ iv = .int .i64 (n : Nat) ∧ As (∀ (j : Nat) (hj : j < m.length), j < n → (m[j]).at0 < p) ∧ As (Pure w1 wx))
      case atStart => exact ⟨0, by omega, rfl, ⟨fun j hj h => absurd h (Nat.not_lt_zero _)⟩, HW⟩
      case round =>
        obtain ⟨n, hn, rfl, HN, HV⟩ := hrel
        have HBX := As.mk ((HV.out.block w.heap.size (lt_of_block HB1.out) (fun h => h)).trans HB1.out)
        have HUX := As.mk (HU1.out.trans HV.out (fun _ _ h => h))
        by_cases hnl : n < m.length
        · obtain ⟨x, hx⟩ : ∃ x, m[n]? = some x := ⟨_, List.getElem?_eq_getElem hnl⟩
          obtain ⟨hlt', hxe⟩ := List.getElem?_eq_some_iff.1 hx
          obtain ⟨b, o, rfl, hFb, hbb, d0, d1, d2⟩ := rng_at (Rp.row_pure HX.out HUX.out) hx
          have HXE := As.mk hxe
          have HNN := As.mk hn
          by_cases hxp : x.at0 < p
          · obtain ⟨g2, rfl⟩ : ∃ m, gk = m + 1 := ⟨gk - 1, by omega⟩
            clear hx hxe hn
            go_wp2
            go_roundg g2
            case measure => omega
            case rel => exact ⟨n + 1, by have := HNN.out; omega, by go_num, ⟨fun j hj h => by rcases Nat.lt_or_ge j n with h9 | h9; exact HN.out j hj h9; obtain rfl : j = n := (by omega); rw [HXE.out]; exact hxp⟩, HV⟩
          · have HG := As.mk (refmap_none (side := side) HRM.out (by omega) HS.out HN.out (fun hj => by rw [HXE.out]; exact hxp))
            have HSN := As.mk (fun W (hu : Pure w W) => HSH.out W hu n (by omega))
            have hdn := HDL.out n (by omega)
            generalize dsum m n = dn at *
            have hw9 : IntKind.i64.wrap (p + dn) = p + dn := IntWalk.i64_in _ (by omega)
            clear hdn
            go_wp2_with (go_at_call 15; refine (HSN.out _ HUX.out).mono ?_; rintro r w2 ⟨rfl, hu⟩; have HB2 := As.mk ((hu.block w.heap.size (lt_of_block HBX.out) (fun h => h)).trans HBX.out); have HU2 := As.mk (HUX.out.trans hu (fun _ _ h => h)); clear hu; apply As.out)
            refine ⟨?_⟩
            have hbl : w.heap.size < w2.heap.size := (Array.getElem?_eq_some_iff.1 HB2.out).1
            have hcf : ∀ i, w2.frozen? ⟨w.heap.size, i, none⟩ = false := fun i => by simp [World.frozen?, HB2.out]
            obtain ⟨k0, k1, k2, k3⟩ := cells4 HB2.out
            go_wp2
            exact bodyPost_ret (spot_end (rb := w.heap.size) rfl _ rfl (set4 (rb := w.heap.size) HB2.out _ _ _ _)) rfl ⟨⟨_, _, _, by rw [HG.out]; rfl⟩, set4_pure8 HU2.out (Nat.le_refl _) _ _ _ _⟩
        · obtain rfl : n = m.length := by omega
          have HG := As.mk (refmap_none (side := side) HRM.out (Nat.le_refl _) HS.out HN.out (fun hj => absurd hj (Nat.lt_irrefl _)))
          have HSN := As.mk (fun W (hu : Pure w W) => HSH.out W hu m.length (Nat.le_refl _))
          have hdn := HDL.out m.length (Nat.le_refl _)
          generalize dsum m m.length = dn at *
          have hw9 : IntKind.i64.wrap (p + dn) = p + dn := IntWalk.i64_in _ (by omega)
          clear hdn
          go_wp2_with (go_at_call 15; refine (HSN.out _ HUX.out).mono ?_; rintro r w2 ⟨rfl, hu⟩; have HB2 := As.mk ((hu.block w.heap.size (lt_of_block HBX.out) (fun h => h)).trans HBX.out); have HU2 := As.mk (HUX.out.trans hu (fun _ _ h => h)); clear hu; apply As.out)
          refine ⟨?_⟩
          have hbl : w.heap.size < w2.heap.size := (Array.getElem?_eq_some_iff.1 HB2.out).1
          have hcf : ∀ i, w2.frozen? ⟨w.heap.size, i, none⟩ = false := fun i => by simp [World.frozen?, HB2.out]
          obtain ⟨k0, k1, k2, k3⟩ := cells4 HB2.out
          go_wp2
          exact bodyPost_ret (spot_end (rb := w.heap.size) rfl _ rfl (set4 (rb := w.heap.size) HB2.out _ _ _ _)) rfl ⟨⟨_, _, _, by rw [HG.out]; rfl⟩, set4_pure8 HU2.out (Nat.le_refl _) _ _ _ _⟩
theorem map8_calls {w : World} {F : Nat → Prop} {A : Option Addr} {c : Nat} {m : List Rng} (hr : rngR.row w F A m) (hb : m.length ≤ 1048576) : Map8C w A c m := by
  intro W hW p side
  by_cases hm : rightB' m = true
  · by_cases hp : p < 0 ∨ 65536 < p
    · have hv : mapV m p side = (0, 1) := by unfold mapV; rw [if_neg (by rw [hm]; decide), if_pos hp]
      rw [hv]
      exact Map8_no (rb := true) (fun V hu => by have := Right8_calls (c := c) (Rp.row_pure (Rp.row_pure hr hW) hu) hb; rw [hm] at this; exact this) (.inr ⟨rfl, hp, rfl⟩)
    · have hv : mapV m p side = (mapGo p side 0 m, 0) := by unfold mapV; rw [if_neg (by rw [hm]; decide), if_neg hp]
      rw [hv]
      exact Map8_main (Rp.row_pure hr hW) hm (by omega)
  · have hm' : rightB' m = false := by simpa using hm
    have hv : mapV m p side = (0, 4) := by unfold mapV; rw [if_pos hm']
    rw [hv]
    exact Map8_no (rb := false) (fun V hu => by have := Right8_calls (c := c) (Rp.row_pure (Rp.row_pure hr hW) hu) hb; rw [hm'] at this; exact this) (.inl ⟨rfl, rfl⟩)
end Go.Proofs.YtfapglhdakhbeaaDoor
