/- pos.Right, pos.within. pos.within. pos.Map. pos.Map: every way. -/
import Derived.Test.YtfapglhdakhbeaaDoorRng
import Derived.Test.YtfapglhdakhbeaaDoorPosE
import Derived.Test.YtfapglhdakhbeaaDoorHeldIn
namespace Go.Proofs.YtfapglhdakhbeaaDoor
open Go.RowKit
set_option linter.unusedVariables false
set_option linter.unusedSimpArgs false

theorem max3 {P : Program} (w : World) (ts : Array TypeId) (t : TypeId) (k k' k'' : IntKind) (x y z : Int) : (Builtin.max_ ts t #[.int k x, .int k' y, .int k'' z]).run P w = .ok (.int k (max (max x y) z)) w := by
  have h : (if z > (if y > x then y else x) then z else (if y > x then y else x)) = max (max x y) z := by
    have : (if y > x then y else x) = max x y := by split <;> omega
    rw [this]; split <;> omega
  rw [← h]
  simp [Builtin.max_, Builtin.max2]
theorem min2' {P : Program} (w : World) (ts : Array TypeId) (t : TypeId) (k k' : IntKind) (x y : Int) : (Builtin.min_ ts t #[.int k x, .int k' y]).run P w = .ok (.int k (min x y)) w := by
  have h : (if y < x then y else x) = min x y := by split <;> omega
  rw [← h]
  simp [Builtin.min_, Builtin.min2]
attribute [local go_sem ↓] max3 min2'
set_option maxRecDepth 100000 in
set_option maxHeartbeats 4000000 in
theorem Right_calls {w : World} {F : Nat → Prop} {A : Option Addr} {c : Nat} {m : List Rng} (hr : rngR.row w F A m) (hb : m.length ≤ 1048576) :
    Calls Tryd.prog 11 #[.slice A m.length c] w fun r w' => r = .returned (.bool (rightB' m)) ∧ Pure w w' := by
  have HR := As.mk hr
  clear hr
  go_enter Tryd.func11, Tryd.ntmps11
  go_wp2
  go_loopg [3, 8] m.length (fun gg lv kv wr => ∃ (k : Nat) (L : Int), k + gg = m.length ∧ lv = .int .i64 L ∧ kv = .int .i64 k ∧ 0 ≤ L ∧ L ≤ 131072 ∧ As (rightM L (m.drop k) = rightM 0 m ∧ Pure w wr))
  case atStart => exact ⟨0, 0, by omega, rfl, rfl, by omega, by omega, ⟨rfl, Upd.refl _ _⟩⟩
  case round =>
    obtain ⟨k, L, hk, rfl, rfl, hL1, hL2, HC⟩ := hrel
    by_cases hlt : k < m.length
    · obtain ⟨x, hx⟩ : ∃ x, m[k]? = some x := ⟨_, List.getElem?_eq_getElem hlt⟩
      obtain ⟨heq, hp⟩ := HC.out
      obtain ⟨b, o, rfl, hFb, hbb, d0, d1, d2⟩ := rng_at (Rp.row_pure HR.out hp) hx
      obtain ⟨g1, rfl⟩ : ∃ m, gk = m + 1 := ⟨gk - 1, by omega⟩
      have hdrop : m.drop k = x :: m.drop (k + 1) := by
        obtain ⟨h1, h2⟩ := List.getElem?_eq_some_iff.1 hx
        rw [List.drop_eq_getElem_cons h1, h2]
      rw [hdrop, rightM] at heq
      have HP := As.mk hp
      have HK := As.mk hk
      have HE := As.mk heq
      have HLL := As.mk (And.intro hL1 hL2)
      clear hp hk hx HC hdrop heq
      cases b1 : decide (x.at0 < L) <;> cases b2 : decide (max x.at0 (max x.old x.new) > 65536) <;> cases b3 : decide (min x.old x.new < 0)
      all_goals
        have c2 : decide ((65536 : Int) < max x.at0 (max x.old x.new)) = decide (max x.at0 (max x.old x.new) > 65536) := rfl
        rw [b2] at c2
        have B1 := As.mk b1
        have B2 := As.mk b2
        have B3 := As.mk b3
      · have hok : x.ok L := by
          have e1 := of_decide_eq_false b1
          have e2 := of_decide_eq_false b2
          have e3 := of_decide_eq_false b3
          unfold Rng.ok
          omega
        have HO := As.mk hok
        have HE2 := As.mk (show rightM (x.at0 + x.old) (m.drop (k + 1)) = rightM 0 m by have := HE.out; rw [if_pos hok] at this; exact this)
        have hwr : IntKind.i64.wrap (x.at0 + x.old) = x.at0 + x.old := IntWalk.i64_in _ (by have := hok.1; have := hok.2.1; have := hok.2.2.1; have := hok.2.2.2.2.1; omega)
        have hwk : IntKind.i64.wrap ((k : Int) + 1) = (k : Int) + 1 := IntWalk.i64_in _ (by omega)
        clear hok hL1 hL2
        go_wp2
        go_roundg g1
        case measure => omega
        case rel => exact ⟨k + 1, x.at0 + x.old, by have := HK.out; omega, by first | rfl | go_num, by go_num, by have := HO.out.1; have := HLL.out; have := HO.out.2.2.2.2.1; omega, by have := HO.out.2.1; have := HO.out.2.2.1; omega, ⟨HE2.out, HP.out.alloc _⟩⟩
      all_goals
        have hbad : rightB' m = false := by
          have e1 := B1.out
          have e2 := B2.out
          have e3 := B3.out
          have hno : ¬ x.ok L := by
            unfold Rng.ok
            simp only [decide_eq_true_eq, decide_eq_false_iff_not] at e1 e2 e3
            omega
          have := HE.out
          rw [if_neg hno] at this
          unfold rightB'
          rw [← this]
          rfl
        have HB := As.mk hbad
        clear hbad
        go_wp2
        go_ret
        exact ⟨by rw [HB.out]; rfl, HP.out.alloc _⟩
    · obtain rfl : k = m.length := by omega
      obtain ⟨heq, hp⟩ := HC.out
      rw [List.drop_length, rightM] at heq
      have HV := As.mk (show rightB' m = decide (m.length ≤ 4) by unfold rightB'; rw [← heq]; exact Bool.true_and _)
      have HP := As.mk hp
      clear heq hp HC
      go_wp2
      go_ret
      exact ⟨by rw [HV.out]; simp; omega, HP.out⟩
end Go.Proofs.YtfapglhdakhbeaaDoor
namespace Go.Proofs.YtfapglhdakhbeaaDoor
open Go.RowKit
set_option linter.unusedVariables false
set_option linter.unusedSimpArgs false

theorem set4 {w : World} {rb : Nat} {x0 x1 x2 x3 : Value} {t : TypeId} {fr : Nat × Nat} (h : w.heap[rb]? = some (.cells #[x0, x1, x2, x3] t fr)) (y0 y1 y2 y3 : Value) :
    ((((w.setCell ⟨rb, 0, none⟩ y0).setCell ⟨rb, 1, none⟩ y1).setCell ⟨rb, 2, none⟩ y2).setCell ⟨rb, 3, none⟩ y3).heap[rb]? = some (.cells #[y0, y1, y2, y3] t fr) := by simp [World.setCell, Array.getElem?_modify, h]
theorem set4_upd (w : World) (rb : Nat) (y0 y1 y2 y3 : Value) : Upd (fun k => k = rb) w ((((w.setCell ⟨rb, 0, none⟩ y0).setCell ⟨rb, 1, none⟩ y1).setCell ⟨rb, 2, none⟩ y2).setCell ⟨rb, 3, none⟩ y3) :=
  ((((Upd.refl (fun k => k = rb) w).setCell (p := ⟨rb, 0, none⟩) (fun _ => rfl) _).setCell (p := ⟨rb, 1, none⟩) (fun _ => rfl) _).setCell (p := ⟨rb, 2, none⟩) (fun _ => rfl) _).setCell (p := ⟨rb, 3, none⟩) (fun _ => rfl) _
/-- A place out of a map: where it stands. -/
def SpotR (v : Int) (e : Ending) : Prop := ∃ (g : Bool) (i o : Int), e = .returned (.agg #[.int .i64 v, .bool g, .int .i64 i, .int .i64 o])
set_option maxRecDepth 100000 in
set_option maxHeartbeats 4000000 in
theorem within_calls (w : World) {r : Rng} {begin p side : Int} (h1 : -1048576 ≤ r.at0 ∧ r.at0 ≤ 1048576) (h2 : 0 ≤ r.old ∧ r.old ≤ 1048576) (h3 : 0 ≤ r.new ∧ r.new ≤ 1048576) (h4 : -10485760 ≤ begin ∧ begin ≤ 10485760) :
    Calls Tryd.prog 13 #[.agg #[.int .i64 r.at0, .int .i64 r.old, .int .i64 r.new], .int .i64 begin, .int .i64 p, .int .i64 side] w fun e w' => SpotR (inAt r begin p side) e ∧ Pure w w' := by
  have hw1 : IntKind.i64.wrap (r.at0 + r.old) = r.at0 + r.old := IntWalk.i64_in _ (by omega)
  have hw2 : IntKind.i64.wrap (begin + r.new) = begin + r.new := IntWalk.i64_in _ (by omega)
  have HV := As.mk (show inAt r begin p side = begin + (if (if decide (r.old = 0) = true then decide (side < 0) else if decide (p = r.at0) = true then true else if decide (p = r.at0 + r.old) = true then false else decide (side < 0)) = true then 0 else r.new) by unfold inAt; simp only [decide_eq_true_eq])
  obtain ⟨at0, old, new⟩ := r
  simp only at HV hw1 hw2
  generalize inAt ⟨at0, old, new⟩ begin p side = iv at *
  cases b1 : decide (side < 0) <;> cases b2 : decide (old = 0) <;> cases b3 : decide (p = at0) <;> cases b4 : decide (p = at0 + old)
  all_goals
    rw [b1, b2, b3, b4] at HV
    have c2 : (old == 0) = decide (old = 0) := rfl
    have c3 : (p == at0) = decide (p = at0) := rfl
    have c4 : (p == at0 + old) = decide (p = at0 + old) := rfl
    rw [b2] at c2
    rw [b3] at c3
    rw [b4] at c4
    clear b2 b3 b4
    have hiv := HV.out
    simp only [Bool.false_eq_true, if_true, if_false, Int.add_zero] at hiv
    clear HV
    rw [hiv]
    clear hiv
    go_enter Tryd.func13, Tryd.ntmps13
    go_wp2
    refine bodyPost_ret (results_cell_row (P := Tryd.prog) rfl _ _ (w.heap.size + 1) 31 _ (0, 0) _ rfl ((Below.heap_alloc _ _ _ (by simp)).trans (heap_alloc2_new w _ _)) Tryd.underlying31 rfl (by kernel_rfl)) rfl ⟨⟨_, _, _, rfl⟩, ((Upd.alloc1 _ _ _).alloc _).alloc _⟩
end Go.Proofs.YtfapglhdakhbeaaDoor
namespace Go.Proofs.YtfapglhdakhbeaaDoor
open Go.RowKit Go.Shelf
set_option linter.unusedVariables false
set_option linter.unusedSimpArgs false

attribute [local go_sem] Oper.semAt_some

/-- How far what stands behind the ranges of a list has moved. -/
def lastD (m : List Rng) (pre : List (Fin m.length)) : Int := match pre.getLast? with | none => 0 | some k => dsum m (k.val + 1)
theorem lastD_nil (m : List Rng) : lastD m [] = 0 := rfl
theorem lastD_snoc (m : List Rng) (pre : List (Fin m.length)) (k : Fin m.length) : lastD m (pre ++ [k]) = dsum m (k.val + 1) := by simp [lastD]
def Passed (m : List Rng) (p : Int) (pre : List (Fin m.length)) : Prop := ∀ k ∈ pre, m[k.val].at0 + m[k.val].old < p
theorem lastD_take (m : List Rng) : ∀ j : Nat, j ≤ m.length → lastD m ((finL m.length).take j) = dsum m j := by
  intro j hj
  cases j with
  | zero => simp [lastD, dsum]
  | succ j => rw [finL_take (by omega), lastD_snoc]
theorem finL_pref {n : Nat} {pre : List (Fin n)} {k : Fin n} (h : pre ++ [k] <+: finL n) : pre = (finL n).take k.val := by
  have hl := h.length_le
  have hn : (finL n).length = n := by simp [finL]
  rw [hn] at hl
  simp only [List.length_append, List.length_cons, List.length_nil] at hl
  have he := List.prefix_iff_eq_take.1 h
  simp only [List.length_append, List.length_cons, List.length_nil, Nat.zero_add] at he
  rw [finL_take (show pre.length < n by omega)] at he
  have h2 := List.append_inj' he rfl
  have h3 : k = ⟨pre.length, by omega⟩ := by simpa using h2.2
  rw [h3]
  exact h2.1
theorem mem_finL_take {n : Nat} : ∀ (j i : Nat) (hi : i < n), i < j → j ≤ n → (⟨i, hi⟩ : Fin n) ∈ (finL n).take j := by
  intro j
  induction j with
  | zero => intro i _ h; omega
  | succ j ih =>
    intro i hi h hj
    rw [finL_take (by omega)]
    rcases Nat.lt_or_ge i j with h1 | h1
    · exact List.mem_append_left _ (ih i hi h1 (by omega))
    · have : i = j := by omega
      subst this
      simp
theorem mapGo_passed {m : List Rng} {p side : Int} (hm : ∀ x ∈ m, (0 : Int) ≤ x.old) : ∀ j : Nat, j ≤ m.length → (∀ i (hi : i < m.length), i < j → m[i].at0 + m[i].old < p) → mapGo p side 0 m = mapGo p side (dsum m j) (m.drop j) := by
  intro j
  induction j with
  | zero => intro _ _; simp [dsum]
  | succ j ih =>
    intro hj hp
    rw [ih (by omega) (fun i hi h => hp i hi (by omega))]
    have hlt : j < m.length := by omega
    have hx : m[j]? = some m[j] := List.getElem?_eq_getElem hlt
    rw [List.drop_eq_getElem_cons hlt, mapGo, dsum_succ hx]
    have h1 := hp j hlt (by omega)
    have h2 := hm m[j] (List.getElem_mem hlt)
    rw [if_neg (by omega), if_neg (by omega)]
theorem map_done {m : List Rng} {p side : Int} (hm : ∀ x ∈ m, (0 : Int) ≤ x.old) (h : Passed m p (finL m.length)) : mapGo p side 0 m = p + lastD m (finL m.length) := by
  have e : finL m.length = (finL m.length).take m.length := by rw [List.take_of_length_le (by simp [finL])]
  rw [mapGo_passed hm m.length (Nat.le_refl _) (fun i hi _ => h ⟨i, hi⟩ (by simp [finL])), List.drop_length, mapGo, e, lastD_take m _ (Nat.le_refl _)]
theorem map_at {m : List Rng} {p side : Int} (hm : ∀ x ∈ m, (0 : Int) ≤ x.old) {pre : List (Fin m.length)} {k : Fin m.length} (hpre : pre ++ [k] <+: finL m.length) (h : Passed m p pre) :
    mapGo p side 0 m = mapGo p side (dsum m k.val) (m[k.val] :: m.drop (k.val + 1)) ∧ lastD m pre = dsum m k.val := by
  have e := finL_pref hpre
  subst e
  refine ⟨?_, lastD_take m _ (by omega)⟩
  rw [mapGo_passed hm k.val (by omega) (fun i hi hik => h ⟨i, hi⟩ (mem_finL_take _ _ hi hik (by omega))), List.drop_eq_getElem_cons k.isLt]
theorem map_break {m : List Rng} {p side : Int} (hm : ∀ x ∈ m, (0 : Int) ≤ x.old) {pre : List (Fin m.length)} {k : Fin m.length} (hpre : pre ++ [k] <+: finL m.length) (h : Passed m p pre) (hk : p < m[k.val].at0) : mapGo p side 0 m = p + lastD m pre := by
  obtain ⟨h1, h2⟩ := map_at (side := side) hm hpre h
  rw [h1, h2, mapGo, if_pos hk]
theorem map_ret {m : List Rng} {p side : Int} (hm : ∀ x ∈ m, (0 : Int) ≤ x.old) {pre : List (Fin m.length)} {k : Fin m.length} (hpre : pre ++ [k] <+: finL m.length) (h : Passed m p pre) (hk : ¬ p < m[k.val].at0) (hk2 : p ≤ m[k.val].at0 + m[k.val].old) : mapGo p side 0 m = inAt m[k.val] (m[k.val].at0 + dsum m k.val) p side := by
  obtain ⟨h1, h2⟩ := map_at (side := side) hm hpre h
  rw [h1, mapGo, if_neg hk, if_pos hk2]
theorem boxes5 {w v : World} {c0 c1 c2 c3 c4 : Array Value} {t0 t1 t2 t3 t4 : TypeId} (hu : Pure (((((w.alloc (.cells c0 t0)).alloc (.cells c1 t1)).alloc (.cells c2 t2)).alloc (.cells c3 t3)).alloc (.cells c4 t4)) v) :
    v.heap[w.heap.size]? = some (.cells c0 t0 (0, 0)) ∧ v.heap[w.heap.size + 1]? = some (.cells c1 t1 (0, 0)) ∧ v.heap[w.heap.size + 1 + 1]? = some (.cells c2 t2 (0, 0)) ∧ v.heap[w.heap.size + 1 + 1 + 1]? = some (.cells c3 t3 (0, 0)) ∧ v.heap[w.heap.size + 1 + 1 + 1 + 1]? = some (.cells c4 t4 (0, 0)) ∧ w.heap.size + 5 ≤ v.heap.size ∧ Pure w v := by
  have hs := hu.size
  simp only [World.size_alloc] at hs
  refine ⟨?_, ?_, ?_, ?_, ?_, by omega, (((((Upd.alloc1 _ _ _).alloc _).alloc _).alloc _).alloc _).trans hu (fun _ _ h => h)⟩
  all_goals rw [hu.block _ (by simp only [World.size_alloc]; omega) (fun h => h)]
  · rw [Below.heap_alloc _ _ _ (by simp only [World.size_alloc]; omega), Below.heap_alloc _ _ _ (by simp only [World.size_alloc]; omega), Below.heap_alloc _ _ _ (by simp only [World.size_alloc]; omega), Below.heap_alloc _ _ _ (by simp only [World.size_alloc]; omega)]
    exact heap_alloc_new w _
  · rw [Below.heap_alloc _ _ _ (by simp only [World.size_alloc]; omega), Below.heap_alloc _ _ _ (by simp only [World.size_alloc]; omega), Below.heap_alloc _ _ _ (by simp only [World.size_alloc]; omega)]
    have h := heap_alloc_new (w.alloc (.cells c0 t0)) (.cells c1 t1)
    simpa only [World.size_alloc] using h
  · rw [Below.heap_alloc _ _ _ (by simp only [World.size_alloc]; omega), Below.heap_alloc _ _ _ (by simp only [World.size_alloc]; omega)]
    have h := heap_alloc_new ((w.alloc (.cells c0 t0)).alloc (.cells c1 t1)) (.cells c2 t2)
    simpa only [World.size_alloc] using h
  · rw [Below.heap_alloc _ _ _ (by simp only [World.size_alloc]; omega)]
    have h := heap_alloc_new (((w.alloc (.cells c0 t0)).alloc (.cells c1 t1)).alloc (.cells c2 t2)) (.cells c3 t3)
    simpa only [World.size_alloc] using h
  · have h := heap_alloc_new ((((w.alloc (.cells c0 t0)).alloc (.cells c1 t1)).alloc (.cells c2 t2)).alloc (.cells c3 t3)) (.cells c4 t4)
    simpa only [World.size_alloc] using h

theorem blk_kept {W W' : World} {row : Option Nat} {k : Nat} {cs : Array Value} {t : TypeId} (h : W.heap[k]? = some (.cells cs t (0, 0))) (hg : W.grownBy W' row) (hrow : ∀ r, row = some r → ∃ o : Obj, W.heap[r]? = some o ∧ o.isCells = false) : W'.heap[k]? = some (.cells cs t (0, 0)) := (grownBy_keeps_cells hg hrow h rfl).trans h
theorem cells4 {w : World} {k : Nat} {x0 x1 x2 x3 : Value} {t : TypeId} (h : w.heap[k]? = some (.cells #[x0, x1, x2, x3] t (0, 0))) :
    w.cell? ⟨k, 0, none⟩ = some x0 ∧ w.cell? ⟨k, 1, none⟩ = some x1 ∧ w.cell? ⟨k, 2, none⟩ = some x2 ∧ w.cell? ⟨k, 3, none⟩ = some x3 ∧ w.frozen? ⟨k, 0, none⟩ = false ∧ w.frozen? ⟨k, 1, none⟩ = false ∧ w.frozen? ⟨k, 2, none⟩ = false ∧ w.frozen? ⟨k, 3, none⟩ = false := by
  refine ⟨?_, ?_, ?_, ?_, ?_, ?_, ?_, ?_⟩ <;> simp [World.cell?, World.frozen?, h]
/-- The boxes of pos.Map. -/
structure MapBx (W : World) (n b8 : Nat) (A : Option Addr) (l c : Nat) (p side a : Int) : Prop where
  h0 : W.heap[n]? = some (.cells #[.slice A l c] 22 (0, 0))
  h1 : W.heap[n + 1]? = some (.cells #[.int .i64 p] 3 (0, 0))
  h2 : W.heap[n + 1 + 1]? = some (.cells #[.int .i64 side] 3 (0, 0))
  h3 : W.heap[n + 1 + 1 + 1]? = some (.cells #[.int .i64 0, .bool false, .int .i64 0, .int .i64 0] 31 (0, 0))
  h4 : W.heap[n + 1 + 1 + 1 + 1]? = some (.cells #[.int .i64 0] 23 (0, 0))
  h8 : W.heap[b8]? = some (.cells #[.int .i64 a] 3 (0, 0))
theorem MapBx.kept {W W' : World} {n b8 : Nat} {A : Option Addr} {l c : Nat} {p side a : Int} {row : Option Nat} (h : MapBx W n b8 A l c p side a) (hg : W.grownBy W' row) (hrow : ∀ r, row = some r → ∃ o : Obj, W.heap[r]? = some o ∧ o.isCells = false) : MapBx W' n b8 A l c p side a :=
  ⟨blk_kept h.h0 hg hrow, blk_kept h.h1 hg hrow, blk_kept h.h2 hg hrow, blk_kept h.h3 hg hrow, blk_kept h.h4 hg hrow, blk_kept h.h8 hg hrow⟩
theorem MapBx.upd {W W' : World} {n b8 : Nat} {A : Option Addr} {l c : Nat} {p side a a' : Int} {S : Nat → Prop} (h : MapBx W n b8 A l c p side a) (hu : Upd S W W') (hs : ∀ k, n ≤ k → k < n + 5 → ¬ S k) (h8 : W'.heap[b8]? = some (.cells #[.int .i64 a'] 3 (0, 0))) : MapBx W' n b8 A l c p side a' :=
  ⟨(hu.block _ (lt_of_block h.h0) (hs _ (by omega) (by omega))).trans h.h0, (hu.block _ (lt_of_block h.h1) (hs _ (by omega) (by omega))).trans h.h1, (hu.block _ (lt_of_block h.h2) (hs _ (by omega) (by omega))).trans h.h2, (hu.block _ (lt_of_block h.h3) (hs _ (by omega) (by omega))).trans h.h3, (hu.block _ (lt_of_block h.h4) (hs _ (by omega) (by omega))).trans h.h4, h8⟩
theorem drew_blk {w : World} {k : Nat} {o : Obj} (h : w.heap[k]? = some o) : w.drew.heap[k]? = some o := h
theorem map_end {W : World} {n3 n4 : Nat} {x0 x1 x2 x3 x4 : Value} {t t' : TypeId} (h3 : W.heap[n3]? = some (.cells #[x0, x1, x2, x3] t (0, 0))) (h4 : W.heap[n4]? = some (.cells #[x4] t' (0, 0))) (hne : n3 ≠ n4) (y0 y1 y2 y3 y4 : Value) :
    (((((W.setCell ⟨n3, 0, none⟩ y0).setCell ⟨n3, 1, none⟩ y1).setCell ⟨n3, 2, none⟩ y2).setCell ⟨n3, 3, none⟩ y3).setCell ⟨n4, 0, none⟩ y4).heap[n3]? = some (.cells #[y0, y1, y2, y3] t (0, 0)) ∧
    (((((W.setCell ⟨n3, 0, none⟩ y0).setCell ⟨n3, 1, none⟩ y1).setCell ⟨n3, 2, none⟩ y2).setCell ⟨n3, 3, none⟩ y3).setCell ⟨n4, 0, none⟩ y4).heap[n4]? = some (.cells #[y4] t' (0, 0)) ∧
    KeepsOthers W (((((W.setCell ⟨n3, 0, none⟩ y0).setCell ⟨n3, 1, none⟩ y1).setCell ⟨n3, 2, none⟩ y2).setCell ⟨n3, 3, none⟩ y3).setCell ⟨n4, 0, none⟩ y4) ∧
    Upd (fun k => k = n3 ∨ k = n4) W (((((W.setCell ⟨n3, 0, none⟩ y0).setCell ⟨n3, 1, none⟩ y1).setCell ⟨n3, 2, none⟩ y2).setCell ⟨n3, 3, none⟩ y3).setCell ⟨n4, 0, none⟩ y4) := by
  have hu := set4_upd W n3 y0 y1 y2 y3
  refine ⟨?_, ?_, ((((KeepsOthers.setCell _ _ _).trans (KeepsOthers.setCell _ _ _)).trans (KeepsOthers.setCell _ _ _)).trans (KeepsOthers.setCell _ _ _)).trans (KeepsOthers.setCell _ _ _), (hu.mono (fun _ _ h => .inl h)).setCell (fun _ => .inr rfl) _⟩
  · exact (Below.heap_setCell _ ⟨n4, 0, none⟩ y4 n3 hne).trans (set4 h3 y0 y1 y2 y3)
  · exact one_setCell ((hu.block n4 (lt_of_block h4) (fun h => hne h.symm)).trans h4)
/-- How the rounds of pos.Map are left. -/
def MapIx (m : List Rng) (p side : Int) (n b8 : Nat) (A : Option Addr) (c : Nat) (cc : Code) (pre : List (Fin m.length)) (W : World) : Prop :=
  (cc = .exit 4 ∧ ∃ (pre' : List (Fin m.length)) (k : Fin m.length), pre = pre' ++ [k] ∧ Passed m p pre' ∧ p < (m[k.val]).at0 ∧ MapBx W n b8 A m.length c p side (p + lastD m pre')) ∨
  (cc = .ret ∧ ∃ (pre' : List (Fin m.length)) (k : Fin m.length), pre = pre' ++ [k] ∧ Passed m p pre' ∧ ¬ p < (m[k.val]).at0 ∧ p ≤ (m[k.val]).at0 + (m[k.val]).old ∧ ∃ (g : Bool) (i o : Int), W.heap[n + 1 + 1 + 1]? = some (.cells #[.int .i64 (inAt m[k.val] ((m[k.val]).at0 + dsum m k.val) p side), .bool g, .int .i64 i, .int .i64 o] 31 (0, 0)) ∧ W.heap[n + 1 + 1 + 1 + 1]? = some (.cells #[.int .i64 0] 23 (0, 0)))
theorem MapIx.kept {m : List Rng} {p side : Int} {n b8 : Nat} {A : Option Addr} {c : Nat} {cc : Code} {pre : List (Fin m.length)} {X Y : World} {row : Option Nat} (hh : MapIx m p side n b8 A c cc pre X) (hg : X.grownBy Y row) (hrw : ∀ r, row = some r → ∃ o : Obj, X.heap[r]? = some o ∧ o.isCells = false) : MapIx m p side n b8 A c cc pre Y := by
  rcases hh with ⟨h1, pre', k, h2, h3, h4, h5⟩ | ⟨h1, pre', k, h2, h3, h4, h5, g, i, o, h6, h7⟩
  · exact .inl ⟨h1, pre', k, h2, h3, h4, h5.kept hg hrw⟩
  · exact .inr ⟨h1, pre', k, h2, h3, h4, h5, g, i, o, blk_kept h6 hg hrw, blk_kept h7 hg hrw⟩
set_option maxRecDepth 100000 in
set_option maxHeartbeats 4000000 in
theorem map_main {w : World} {F : Nat → Prop} {A : Option Addr} {c : Nat} {m : List Rng} {p side : Int} (hr : rngR.row w F A m) (hm : rightB' m = true) (hp : 0 ≤ p ∧ p ≤ 65536) :
    Calls Tryd.prog 7 #[.slice A m.length c, .int .i64 p, .int .i64 side] w fun r w' => SpotE (mapGo p side 0 m) 0 r ∧ Pure w w' := by
  have hm2 : rightM 0 m = true ∧ m.length ≤ 4 := by
    unfold rightB' at hm
    rw [Bool.and_eq_true, decide_eq_true_eq] at hm
    exact hm
  have HM := As.mk (rightM_at m 0 hm2.1)
  have HO := As.mk (show ∀ x ∈ m, (0 : Int) ≤ x.old from fun x hx => (HM.out x hx).2.2.2.1)
  have hm4 := hm2.2
  have HRC := As.mk (fun (W : World) (hu : Pure w W) => Right_calls (c := c) (Rp.row_pure hr hu) (show m.length ≤ 1048576 by omega))
  rw [hm] at HRC
  have HE := As.mk (fun (W : World) => each_calls W A m.length c)
  have HR := As.mk hr
  have HMM := As.mk hm
  have d0 : decide (p < 0) = false := by rw [decide_eq_false_iff_not]; omega
  have d1 : decide (65536 < p) = false := by rw [decide_eq_false_iff_not]; omega
  have HPP := As.mk hp
  clear hr hm hm2 hp
  refine (callsIn_wide (n := 6)).1 ?_
  refine callsIn_of_wp_marks Tryd.func7 rfl trivial ?_ rfl
  simp only [Tryd.ntmps7, List.size_toArray, List.length_cons, List.length_nil, Nat.reduceAdd, Nat.reduceSub, Array.replicate_succ, Array.replicate_zero, List.push_toArray, List.append_toArray, List.nil_append, List.cons_append]
  refine wpIn_wide.2 ?_
  go_wp2_with (first | (go_at_call 11; refine (HRC.out _ (((((Upd.alloc1 _ _ _).alloc _).alloc _).alloc _).alloc _)).mono ?_; rintro e w1 ⟨rfl, hu⟩; obtain ⟨k0, k1, k2, k3, k4, hs, hp1⟩ := boxes5 hu; have q0 := cell_of_one k0; have q1 := cell_of_one k1; have K0 := As.mk k0; have K1 := As.mk k1; have K2 := As.mk k2; have K3 := As.mk k3; have K4 := As.mk k4; have HP := As.mk hp1; have hs0 : w.heap.size < w1.heap.size := (by omega); have hs1 : w.heap.size + 1 < w1.heap.size := (by omega); have hs2 : w.heap.size + 1 + 1 < w1.heap.size := (by omega); have hs4 : w.heap.size + 1 + 1 + 1 + 1 < w1.heap.size := (by omega); clear hu k0 k1 k2 k3 k4 hp1) | (go_at_call 12; refine (HE.out _).mono ?_; rintro e w2 ⟨rfl, rfl⟩))
  obtain ⟨w2, hw2⟩ : ∃ w2, (w1.alloc (.cells #[.int .i64 p] 3)).alloc (.cells #[.slice A m.length c] 22) = w2 := ⟨_, rfl⟩
  have hu2 : Pure w1 w2 := hw2 ▸ (Upd.alloc1 _ _ _).alloc _
  have hz2 : w2.heap.size = w1.heap.size + 1 + 1 := by rw [← hw2]; simp only [World.size_alloc]
  have hPw : Pure w w2 := HP.out.trans hu2 (fun _ _ h => h)
  have g8 : w2.heap[w1.heap.size]? = some (.cells #[.int .i64 p] 3 (0, 0)) := by
    rw [← hw2, Below.heap_alloc _ _ _ (by simp only [World.size_alloc]; omega)]
    exact heap_alloc_new w1 _
  have gB : w2.heap[w1.heap.size + 1]? = some (.cells #[.slice A m.length c] 22 (0, 0)) := by
    rw [← hw2]
    have h := heap_alloc_new (w1.alloc (.cells #[.int .i64 p] 3)) (.cells #[.slice A m.length c] 22)
    simpa only [World.size_alloc] using h
  have hX : MapBx w2 w.heap.size w1.heap.size A m.length c p side p :=
    ⟨(hu2.block _ (by omega) (fun h => h)).trans K0.out, (hu2.block _ (by omega) (fun h => h)).trans K1.out, (hu2.block _ (by omega) (fun h => h)).trans K2.out, (hu2.block _ (by omega) (fun h => h)).trans K3.out, (hu2.block _ (by omega) (fun h => h)).trans K4.out, g8⟩
  rw [hw2]
  clear hw2 HRC HE K0 K1 K2 K3 K4 q0 q1
  refine (wpIn_wide (n := 6)).1 ?_
  refine wpIn_rangeFunc_ownF rfl (by omega) (gf := 20) (lb := #[.pointer (some ⟨w1.heap.size + 1, 0, none⟩)]) rfl trivial (enters_of Tryd.func20 (by kernel_rfl) rfl)
    (each_stops 5 (by omega) (w0 := w) (w := w2) (B := w1.heap.size + 1) HR.out HMM.out hPw (by omega) (by omega) (cell_of_one gB)) KpU.trans
    (fun W l0 o o' hl h1 h2 _ => (grown_upd (grownBy_putObj' W l0 o')).mono (fun k _ e => by injection e with e; subst e; exact ⟨by omega, .inr ⟨o, h1, h2⟩⟩)) (Below.refl _ _) (fun _ => rfl)
    (fun pre W => (MapBx W w.heap.size w1.heap.size A m.length c p side (p + lastD m pre) ∧ Passed m p pre) ∧ Below w.heap.size w W)
    (fun cc pre W => MapIx m p side w.heap.size w1.heap.size A c cc pre W ∧ Below w.heap.size w W)
    (OwnFrom.and (Own.from (fun pre X Y row hh hg hrw => ⟨hh.1.kept hg hrw, hh.2⟩) _) (ownFrom_below (Nat.le_refl _) (by omega)))
    (fun cc => OwnFrom.and (Own.from (fun pre X Y row hh hg hrw => hh.kept hg hrw) _) (ownFrom_below (Nat.le_refl _) (by omega)))
    ⟨⟨by rw [lastD_nil, Int.add_zero]; exact hX, fun _ h => by cases h⟩, hPw.below⟩
    (fun k => { tmps := #[.slice A m.length c, .int .i64 p, .int .i64 side, .pointer (some ⟨w.heap.size, 0, none⟩), .pointer (some ⟨w.heap.size + 1, 0, none⟩), .pointer (some ⟨w.heap.size + 1 + 1, 0, none⟩), .pointer (some ⟨w.heap.size + 1 + 1 + 1, 0, none⟩), .pointer (some ⟨w.heap.size + 1 + 1 + 1 + 1, 0, none⟩), .pointer (some ⟨w1.heap.size, 0, none⟩), .int .i64 ((k.val : Nat) : Int), .int .i64 (m[k.val].at0 + dsum m k.val), undef, undef, .bool false, .slice A m.length c, .bool true, .bool false, .bool false, .int .i64 p, .bool false, .bool false, .int .i64 p, .bool false, undef, undef, .int .i64 p, .slice A m.length c, .func (.func 20) #[] #[.pointer (some ⟨w1.heap.size + 1, 0, none⟩)], .int .i64 ((k.val : Nat) : Int), .int .i64 (m[k.val].at0 + dsum m k.val), undef, undef, undef, undef, undef, undef, undef, undef, undef, undef, undef, undef, undef, undef, undef, undef, undef, undef, undef, undef, undef, undef, undef, undef, undef, undef, undef, undef, undef, undef, undef, undef, undef, undef, undef, undef, undef, undef, undef, undef, undef, undef, undef, undef, undef, undef, undef, undef, undef, undef, undef, undef, undef, undef, undef, undef, undef, undef, undef, undef, undef, undef, undef], defers := [] }) ?assign ?body ?done ?stop
  case assign =>
    intro lp x W K hK
    simp only [encE]
    gi_wp2
    exact hK
  case body =>
    rintro lp pre k W ⟨⟨hb, hps⟩, hB⟩ _
    have hxk : m[k.val]? = some m[k.val] := List.getElem?_eq_getElem k.isLt
    obtain ⟨b, o, hA, hFb, hbb, r0, r1, r2⟩ := rng_at (Rp.row_pure HR.out (Upd.of_below hB)) hxk
    subst hA
    obtain ⟨x1, x2, x3, x4, x5, x6⟩ := HM.out _ (List.getElem_mem k.isLt)
    have hds := dsum_le (m := m) (fun x hx => HM.out x hx) k.val (by omega)
    have hkl := k.isLt
    have hp1 := HPP.out.1
    have hp2 := HPP.out.2
    obtain ⟨x, hx⟩ : ∃ x, m[k.val] = x := ⟨_, rfl⟩
    obtain ⟨D, hD⟩ : ∃ D, dsum m k.val = D := ⟨_, rfl⟩
    simp only [hx, hD] at r0 r1 r2 x1 x2 x3 x4 x5 x6 hds ⊢
    have hdb : -262144 ≤ D ∧ D ≤ 262144 := by omega
    have q0 := cell_of_one hb.h0
    have q1 := cell_of_one hb.h1
    have q2 := cell_of_one hb.h2
    have q8 := cell_of_one hb.h8
    have f8 := free_of_one hb.h8
    have HX := As.mk hx
    have HD := As.mk hD
    have HBX := As.mk hb
    have n0 : w.heap.size < W.heap.size := lt_of_block hb.h0
    have n1 : w.heap.size + 1 < W.heap.size := lt_of_block hb.h1
    have n2 : w.heap.size + 1 + 1 < W.heap.size := lt_of_block hb.h2
    have n8 : w1.heap.size < W.heap.size := lt_of_block hb.h8
    have hwa : IntKind.i64.wrap (x.at0 + x.old) = x.at0 + x.old := IntWalk.i64_in _ (by omega)
    have hwb : IntKind.i64.wrap (p + (x.at0 + D)) = p + (x.at0 + D) := IntWalk.i64_in _ (by omega)
    have hwc : IntKind.i64.wrap (p + (x.at0 + D) - x.at0) = p + (x.at0 + D) - x.at0 := IntWalk.i64_in _ (by omega)
    have hwd : IntKind.i64.wrap (p + (x.at0 + D) - x.at0 + x.new) = p + (x.at0 + D) - x.at0 + x.new := IntWalk.i64_in _ (by omega)
    have hwe : IntKind.i64.wrap (p + (x.at0 + D) - x.at0 + x.new - x.old) = p + (x.at0 + D) - x.at0 + x.new - x.old := IntWalk.i64_in _ (by omega)
    have hwf : IntKind.i64.wrap (p - x.at0) = p - x.at0 := IntWalk.i64_in _ (by omega)
    have HBD := As.mk (And.intro (And.intro x1 x2) (And.intro x3 (And.intro x4 (And.intro x5 (And.intro x6 hdb)))))
    have HW := As.mk (fun (V : World) => within_calls V (r := x) (begin := x.at0 + D) (p := p) (side := side) (by omega) (by omega) (by omega) (by omega))
    have hpa := Upd.alloc1 (fun _ => False) W (.cells #[.int .i64 x.at0, .int .i64 x.old, .int .i64 x.new] 47)
    have HPA := As.mk hpa
    clear hxk hx hD hds hdb hb hpa
    by_cases hlt : p < x.at0
    · have t1 : decide (p < x.at0) = true := by simpa using hlt
      have HLT := As.mk hlt
      clear hlt
      gi_wp2
      exact ⟨KeepsOthers.alloc _ _, ⟨.inl ⟨rfl, pre, k, rfl, hps, by rw [HX.out]; exact HLT.out, HBX.out.upd HPA.out (fun _ _ _ h => h) ((HPA.out.block _ n8 (fun h => h)).trans HBX.out.h8)⟩, hB.alloc (by omega) _⟩⟩
    · have t1 : decide (p < x.at0) = false := by simpa using hlt
      have HLT := As.mk hlt
      by_cases hle : p ≤ x.at0 + x.old
      · have t2 : decide (p ≤ x.at0 + x.old) = true := by simpa using hle
        have HLE := As.mk hle
        clear hle hlt hwb hwc hwd hwe HBD
        by_cases hs : side < 0
        · by_cases he : p = x.at0
          · skip
            have b1 : decide (side < 0) = true := by simpa using hs
            have c1 : decide (0 ≤ side) = false := by simpa using hs
            have c1' : decide (side ≥ 0) = false := by simpa using hs
            have c2 : (p != x.at0) = false := by simpa using he
            clear hs he
            gi_wp2_with (refine ⟨trivial, ?_⟩; gi_at_call 13; refine (CallsIn.inRound lp (callsIn_wide.2 (HW.out _))).mono ?_; rintro e W3 ⟨⟨g3, i3, o3, rfl⟩, hu3⟩; have HU3 := As.mk hu3; have n3 : W.heap.size < W3.heap.size := (by have := hu3.size; simp at this; omega); have l1 : w.heap.size + 1 < W3.heap.size := (by omega); have l2 : w.heap.size + 1 + 1 < W3.heap.size := (by omega); have m1 : W3.cell? ⟨w.heap.size + 1, 0, none⟩ = some (.int .i64 p) := (by have := hu3.cell (b := w.heap.size + 1) (o := 0) (by simp; omega) (fun h => h); rw [this]; exact (HPA.out.cell n1 (fun h => h)).trans q1); have m2 : W3.cell? ⟨w.heap.size + 1 + 1, 0, none⟩ = some (.int .i64 side) := (by have := hu3.cell (b := w.heap.size + 1 + 1) (o := 0) (by simp; omega) (fun h => h); rw [this]; exact (HPA.out.cell n2 (fun h => h)).trans q2); have m3 : W3.heap[W.heap.size]? = some (.cells #[.int .i64 x.at0, .int .i64 x.old, .int .i64 x.new] 47 (0, 0)) := ((hu3.block _ (by simp) (fun h => h)).trans (heap_alloc_new W _)); have m4 : W3.cell? ⟨W.heap.size, 0, none⟩ = some (.int .i64 x.at0) := (by unfold World.cell?; simp only [m3]; rfl); have m5 : W3.cell? ⟨W.heap.size, 1, none⟩ = some (.int .i64 x.old) := (by unfold World.cell?; simp only [m3]; rfl); clear hu3 m3; have HPV := As.mk (HPA.out.trans HU3.out (fun _ _ h => h)); have k3 := (HPV.out.block _ (lt_of_block HBX.out.h3) (fun h => h)).trans HBX.out.h3; have k4 := (HPV.out.block _ (lt_of_block HBX.out.h4) (fun h => h)).trans HBX.out.h4; have n7 : w.heap.size + 1 + 1 + 1 < W3.heap.size := lt_of_block k3; have n9 : w.heap.size + 1 + 1 + 1 + 1 < W3.heap.size := lt_of_block k4; have hfin := As.mk (map_end k3 k4 (by omega) (.int .i64 (inAt x (x.at0 + D) p side)) (.bool g3) (.int .i64 i3) (.int .i64 o3) (.int .i64 0)); obtain ⟨y0, y1, y2, y3, g0, g1, g2, g4⟩ := cells4 k3; have z4 := free_of_one k4; have zz4 := cell_of_one k4; clear k3 k4)
            have hU := Upd.trans (HPV.out.mono (S' := fun j => j = w.heap.size + 1 + 1 + 1 ∨ j = w.heap.size + 1 + 1 + 1 + 1) (fun _ _ h => h.elim)) hfin.out.2.2.2 (fun _ _ h => h)
            have s3 := lt_of_block hfin.out.1
            have s4 := lt_of_block hfin.out.2.1
            exact ⟨((KeepsOthers.of_grownBy (pure_grown HPV.out) (fun _ _ e => by cases e)).trans hfin.out.2.2.1).trans (KeepsOthers.alloc _ _), ⟨.inr ⟨rfl, pre, k, rfl, hps, by rw [HX.out]; have := HLT.out; omega, by rw [HX.out]; have := HLE.out; omega, g3, _, _, by rw [HX.out, HD.out]; exact (Below.heap_alloc _ _ _ s3).trans hfin.out.1, (Below.heap_alloc _ _ _ s4).trans hfin.out.2.1⟩, Pure.below (Upd.trans (Upd.of_below hB) (hU.alloc _) (fun j hj h => by omega))⟩⟩
          · skip
            have b1 : decide (side < 0) = true := by simpa using hs
            have c1 : decide (0 ≤ side) = false := by simpa using hs
            have c1' : decide (side ≥ 0) = false := by simpa using hs
            have c2 : (p != x.at0) = true := by simpa using he
            clear hs he
            gi_wp2_with (refine ⟨trivial, ?_⟩; gi_at_call 13; refine (CallsIn.inRound lp (callsIn_wide.2 (HW.out _))).mono ?_; rintro e W3 ⟨⟨g3, i3, o3, rfl⟩, hu3⟩; have HU3 := As.mk hu3; have n3 : W.heap.size < W3.heap.size := (by have := hu3.size; simp at this; omega); have l1 : w.heap.size + 1 < W3.heap.size := (by omega); have l2 : w.heap.size + 1 + 1 < W3.heap.size := (by omega); have m1 : W3.cell? ⟨w.heap.size + 1, 0, none⟩ = some (.int .i64 p) := (by have := hu3.cell (b := w.heap.size + 1) (o := 0) (by simp; omega) (fun h => h); rw [this]; exact (HPA.out.cell n1 (fun h => h)).trans q1); have m2 : W3.cell? ⟨w.heap.size + 1 + 1, 0, none⟩ = some (.int .i64 side) := (by have := hu3.cell (b := w.heap.size + 1 + 1) (o := 0) (by simp; omega) (fun h => h); rw [this]; exact (HPA.out.cell n2 (fun h => h)).trans q2); have m3 : W3.heap[W.heap.size]? = some (.cells #[.int .i64 x.at0, .int .i64 x.old, .int .i64 x.new] 47 (0, 0)) := ((hu3.block _ (by simp) (fun h => h)).trans (heap_alloc_new W _)); have m4 : W3.cell? ⟨W.heap.size, 0, none⟩ = some (.int .i64 x.at0) := (by unfold World.cell?; simp only [m3]; rfl); have m5 : W3.cell? ⟨W.heap.size, 1, none⟩ = some (.int .i64 x.old) := (by unfold World.cell?; simp only [m3]; rfl); clear hu3 m3)
            have hpv := Upd.alloc1 (fun _ => False) W3 (.cells #[.int .i64 (inAt x (x.at0 + D) p side), .bool g3, .int .i64 i3, .int .i64 o3] 31)
            have v1 := (hpv.cell (o := 0) l1 (fun h => h)).trans m1
            have v4 := (hpv.cell (o := 0) n3 (fun h => h)).trans m4
            have hvb := heap_alloc_new W3 (.cells #[.int .i64 (inAt x (x.at0 + D) p side), .bool g3, .int .i64 i3, .int .i64 o3] 31)
            have HPV := As.mk (Upd.trans (HPA.out.trans HU3.out (fun _ _ h => h)) hpv (fun _ _ h => h))
            generalize (W3.alloc (.cells #[.int .i64 (inAt x (x.at0 + D) p side), .bool g3, .int .i64 i3, .int .i64 o3] 31)) = V at *
            obtain ⟨e0, e1, e2, e3, f0, f1, f2, f3⟩ := cells4 hvb
            have k3 := (HPV.out.block _ (lt_of_block HBX.out.h3) (fun h => h)).trans HBX.out.h3
            have k4 := (HPV.out.block _ (lt_of_block HBX.out.h4) (fun h => h)).trans HBX.out.h4
            have n7 : w.heap.size + 1 + 1 + 1 < W.heap.size := lt_of_block HBX.out.h3
            have n9 : w.heap.size + 1 + 1 + 1 + 1 < W.heap.size := lt_of_block HBX.out.h4
            have u3 := (Below.heap_setCell (V.setCell ⟨W3.heap.size, 2, none⟩ (.int .i64 ((k.val : Nat) : Int))) ⟨W3.heap.size, 3, none⟩ (.int .i64 (p - x.at0)) (w.heap.size + 1 + 1 + 1) (by show w.heap.size + 1 + 1 + 1 ≠ W3.heap.size; omega)).trans ((Below.heap_setCell V ⟨W3.heap.size, 2, none⟩ (.int .i64 ((k.val : Nat) : Int)) (w.heap.size + 1 + 1 + 1) (by show w.heap.size + 1 + 1 + 1 ≠ W3.heap.size; omega)).trans k3)
            have u4 := (Below.heap_setCell (V.setCell ⟨W3.heap.size, 2, none⟩ (.int .i64 ((k.val : Nat) : Int))) ⟨W3.heap.size, 3, none⟩ (.int .i64 (p - x.at0)) (w.heap.size + 1 + 1 + 1 + 1) (by show w.heap.size + 1 + 1 + 1 + 1 ≠ W3.heap.size; omega)).trans ((Below.heap_setCell V ⟨W3.heap.size, 2, none⟩ (.int .i64 ((k.val : Nat) : Int)) (w.heap.size + 1 + 1 + 1 + 1) (by show w.heap.size + 1 + 1 + 1 + 1 ≠ W3.heap.size; omega)).trans k4)
            have hfin := As.mk (map_end u3 u4 (by omega) (.int .i64 (inAt x (x.at0 + D) p side)) (.bool g3) (.int .i64 ((k.val : Nat) : Int)) (.int .i64 (p - x.at0)) (.int .i64 0))
            have hU := As.mk (Upd.trans (((HPV.out.mono (S' := fun j => j = w.heap.size + 1 + 1 + 1 ∨ j = w.heap.size + 1 + 1 + 1 + 1) (fun _ _ h => h.elim)).setCell (p := ⟨W3.heap.size, 2, none⟩) (fun h => by have : W3.heap.size < W.heap.size := h; omega) (.int .i64 ((k.val : Nat) : Int))).setCell (p := ⟨W3.heap.size, 3, none⟩) (fun h => by have : W3.heap.size < W.heap.size := h; omega) (.int .i64 (p - x.at0))) hfin.out.2.2.2 (fun _ _ h => h))
            obtain ⟨y0, y1, y2, y3, g0, g1, g2, g4⟩ := cells4 k3
            have z4 := free_of_one k4
            have zz4 := cell_of_one k4
            have HVB := As.mk hvb
            clear hpv hvb m1 m2 m4 m5 HU3 HW r0 r1 r2 q0 q1 q2 q8 f8 u3 u4 k3 k4
            refine wpIn_region_T (P := Tryd.prog) (fun v => v.cell? ⟨w.heap.size + 1, 0, none⟩ = some (.int .i64 p) ∧ v.cell? ⟨W.heap.size, 0, none⟩ = some (.int .i64 x.at0)) 8 (by kernel_rfl) (by kernel_rfl) ?_ (fun hHeld => ?_)
            · first | exact ⟨v1, v4⟩ | exact ⟨by simpa using v1, by simpa using v4⟩ | exact ⟨(World.cell?_setCell_far _ _ _ _ (by show W3.heap.size ≠ w.heap.size + 1; omega)).trans v1, (World.cell?_setCell_far _ _ _ _ (by show W3.heap.size ≠ W.heap.size; omega)).trans v4⟩
            refine takeT 0 (by exact opAt rfl) (by kernel_rfl) (by exact fun _ _ _ h => h) (by rfl) (by intro w hSw; (try dsimp only at hSw); go_simp; try with_reducible rfl) (by assumption) ?_
            (try simp only [Act.put, List.setIfInBounds_toArray, List.set_cons_zero, List.set_cons_succ])
            refine takeT 1 (by exact opAt rfl) (by kernel_rfl) (by exact fun _ _ _ h => h) (by rfl) (by intro w hSw; (try dsimp only at hSw); go_simp; try with_reducible rfl) (by assumption) ?_
            (try simp only [Act.put, List.setIfInBounds_toArray, List.set_cons_zero, List.set_cons_succ])
            refine takeT 2 (by exact opAt rfl) (by kernel_rfl) (by exact fun _ _ _ h => h) (by rfl) (by intro w hSw; (try dsimp only at hSw); go_simp; try with_reducible rfl) (by assumption) ?_
            (try simp only [Act.put, List.setIfInBounds_toArray, List.set_cons_zero, List.set_cons_succ])
            refine takeT 3 (by exact opAt rfl) (by kernel_rfl) (by exact fun _ _ _ h => h) (by rfl) (by intro w hSw; (try dsimp only at hSw); go_simp; try with_reducible rfl) (by assumption) ?_
            (try simp only [Act.put, List.setIfInBounds_toArray, List.set_cons_zero, List.set_cons_succ])
            refine takeT 4 (by exact opAt rfl) (by kernel_rfl) (by exact fun _ _ _ h => h) (by rfl) (by intro w hSw; (try dsimp only at hSw); go_simp; try with_reducible rfl) (by assumption) ?_
            (try simp only [Act.put, List.setIfInBounds_toArray, List.set_cons_zero, List.set_cons_succ])
            refine takeT 5 (by exact opAt rfl) (by kernel_rfl) (by exact fun _ _ _ h => h) (by rfl) (by intro w hSw; (try dsimp only at hSw); go_simp; try with_reducible rfl) (by assumption) ?_
            (try simp only [Act.put, List.setIfInBounds_toArray, List.set_cons_zero, List.set_cons_succ])
            refine wpAnyT_one (i := 6) (by kernel_rfl) (by exact opAt rfl) (fun K hK => ?_)
            go_simp
            refine hK.out _ _ (fun _ => by first | exact ⟨v1, v4⟩ | exact ⟨by simpa using v1, by simpa using v4⟩ | exact ⟨(World.cell?_setCell_far _ _ _ _ (by show W3.heap.size ≠ w.heap.size + 1; omega)).trans v1, (World.cell?_setCell_far _ _ _ _ (by show W3.heap.size ≠ W.heap.size; omega)).trans v4⟩) (fun hHeld => ?_)
            replace hHeld := hHeld (by decide)
            clear hK K
            (try simp only [Act.put, List.setIfInBounds_toArray, List.set_cons_zero, List.set_cons_succ])
            refine takeT 7 (by exact opAt rfl) (by kernel_rfl) (by exact fun _ _ _ h => h) (by rfl) (by intro w hSw; (try dsimp only at hSw); go_simp; try with_reducible rfl) (by assumption) ?_
            (try simp only [Act.put, List.setIfInBounds_toArray, List.set_cons_zero, List.set_cons_succ])
            refine wpAnyT_one (i := 8) (by kernel_rfl) (by exact opAt rfl) (fun K hK => ?_)
            go_simp
            refine hK.out _ _ (fun h => absurd rfl h) (fun hHeld => ?_)
            clear hK K
            (try simp only [Act.put, List.setIfInBounds_toArray, List.set_cons_zero, List.set_cons_succ])
            refine wpAnyT_done (by kernel_rfl) ?_ _
            refine ⟨by simp, ?_⟩
            clear v1 v4
            gi_wp2
            have hko := ((KeepsOthers.of_grownBy (pure_grown HPV.out) (fun _ _ e => by cases e)).trans ((KeepsOthers.setCell V ⟨W3.heap.size, 2, none⟩ (.int .i64 ((k.val : Nat) : Int))).trans (KeepsOthers.setCell (V.setCell ⟨W3.heap.size, 2, none⟩ (.int .i64 ((k.val : Nat) : Int))) ⟨W3.heap.size, 3, none⟩ (.int .i64 (p - x.at0))))).trans hfin.out.2.2.1
            refine ⟨hko.trans (KeepsOthers.drew _), .inr ⟨rfl, pre, k, rfl, hps, ?_, ?_, g3, ((k.val : Nat) : Int), p - x.at0, ?_, ?_⟩, ?_⟩
            · rw [HX.out]
              have := HLT.out
              omega
            · rw [HX.out]
              have := HLE.out
              omega
            · rw [HX.out, HD.out]
              exact drew_blk hfin.out.1
            · exact drew_blk hfin.out.2.1
            · exact Pure.below (Upd.trans (Upd.of_below hB) hU.out.drew (fun j hj h => by omega))
        · by_cases he : p = x.at0 + x.old
          · skip
            have b1 : decide (side < 0) = false := by simpa using hs
            have c1 : decide (0 ≤ side) = true := by simpa using hs
            have c1' : decide (side ≥ 0) = true := by simpa using hs
            have c2 : (p != x.at0 + x.old) = false := by simpa using he
            clear hs he
            gi_wp2_with (refine ⟨trivial, ?_⟩; gi_at_call 13; refine (CallsIn.inRound lp (callsIn_wide.2 (HW.out _))).mono ?_; rintro e W3 ⟨⟨g3, i3, o3, rfl⟩, hu3⟩; have HU3 := As.mk hu3; have n3 : W.heap.size < W3.heap.size := (by have := hu3.size; simp at this; omega); have l1 : w.heap.size + 1 < W3.heap.size := (by omega); have l2 : w.heap.size + 1 + 1 < W3.heap.size := (by omega); have m1 : W3.cell? ⟨w.heap.size + 1, 0, none⟩ = some (.int .i64 p) := (by have := hu3.cell (b := w.heap.size + 1) (o := 0) (by simp; omega) (fun h => h); rw [this]; exact (HPA.out.cell n1 (fun h => h)).trans q1); have m2 : W3.cell? ⟨w.heap.size + 1 + 1, 0, none⟩ = some (.int .i64 side) := (by have := hu3.cell (b := w.heap.size + 1 + 1) (o := 0) (by simp; omega) (fun h => h); rw [this]; exact (HPA.out.cell n2 (fun h => h)).trans q2); have m3 : W3.heap[W.heap.size]? = some (.cells #[.int .i64 x.at0, .int .i64 x.old, .int .i64 x.new] 47 (0, 0)) := ((hu3.block _ (by simp) (fun h => h)).trans (heap_alloc_new W _)); have m4 : W3.cell? ⟨W.heap.size, 0, none⟩ = some (.int .i64 x.at0) := (by unfold World.cell?; simp only [m3]; rfl); have m5 : W3.cell? ⟨W.heap.size, 1, none⟩ = some (.int .i64 x.old) := (by unfold World.cell?; simp only [m3]; rfl); clear hu3 m3; have HPV := As.mk (HPA.out.trans HU3.out (fun _ _ h => h)); have k3 := (HPV.out.block _ (lt_of_block HBX.out.h3) (fun h => h)).trans HBX.out.h3; have k4 := (HPV.out.block _ (lt_of_block HBX.out.h4) (fun h => h)).trans HBX.out.h4; have n7 : w.heap.size + 1 + 1 + 1 < W3.heap.size := lt_of_block k3; have n9 : w.heap.size + 1 + 1 + 1 + 1 < W3.heap.size := lt_of_block k4; have hfin := As.mk (map_end k3 k4 (by omega) (.int .i64 (inAt x (x.at0 + D) p side)) (.bool g3) (.int .i64 i3) (.int .i64 o3) (.int .i64 0)); obtain ⟨y0, y1, y2, y3, g0, g1, g2, g4⟩ := cells4 k3; have z4 := free_of_one k4; have zz4 := cell_of_one k4; clear k3 k4)
            have hU := Upd.trans (HPV.out.mono (S' := fun j => j = w.heap.size + 1 + 1 + 1 ∨ j = w.heap.size + 1 + 1 + 1 + 1) (fun _ _ h => h.elim)) hfin.out.2.2.2 (fun _ _ h => h)
            have s3 := lt_of_block hfin.out.1
            have s4 := lt_of_block hfin.out.2.1
            exact ⟨((KeepsOthers.of_grownBy (pure_grown HPV.out) (fun _ _ e => by cases e)).trans hfin.out.2.2.1).trans (KeepsOthers.alloc _ _), ⟨.inr ⟨rfl, pre, k, rfl, hps, by rw [HX.out]; have := HLT.out; omega, by rw [HX.out]; have := HLE.out; omega, g3, _, _, by rw [HX.out, HD.out]; exact (Below.heap_alloc _ _ _ s3).trans hfin.out.1, (Below.heap_alloc _ _ _ s4).trans hfin.out.2.1⟩, Pure.below (Upd.trans (Upd.of_below hB) (hU.alloc _) (fun j hj h => by omega))⟩⟩
          · skip
            have b1 : decide (side < 0) = false := by simpa using hs
            have c1 : decide (0 ≤ side) = true := by simpa using hs
            have c1' : decide (side ≥ 0) = true := by simpa using hs
            have c2 : (p != x.at0 + x.old) = true := by simpa using he
            clear hs he
            gi_wp2_with (refine ⟨trivial, ?_⟩; gi_at_call 13; refine (CallsIn.inRound lp (callsIn_wide.2 (HW.out _))).mono ?_; rintro e W3 ⟨⟨g3, i3, o3, rfl⟩, hu3⟩; have HU3 := As.mk hu3; have n3 : W.heap.size < W3.heap.size := (by have := hu3.size; simp at this; omega); have l1 : w.heap.size + 1 < W3.heap.size := (by omega); have l2 : w.heap.size + 1 + 1 < W3.heap.size := (by omega); have m1 : W3.cell? ⟨w.heap.size + 1, 0, none⟩ = some (.int .i64 p) := (by have := hu3.cell (b := w.heap.size + 1) (o := 0) (by simp; omega) (fun h => h); rw [this]; exact (HPA.out.cell n1 (fun h => h)).trans q1); have m2 : W3.cell? ⟨w.heap.size + 1 + 1, 0, none⟩ = some (.int .i64 side) := (by have := hu3.cell (b := w.heap.size + 1 + 1) (o := 0) (by simp; omega) (fun h => h); rw [this]; exact (HPA.out.cell n2 (fun h => h)).trans q2); have m3 : W3.heap[W.heap.size]? = some (.cells #[.int .i64 x.at0, .int .i64 x.old, .int .i64 x.new] 47 (0, 0)) := ((hu3.block _ (by simp) (fun h => h)).trans (heap_alloc_new W _)); have m4 : W3.cell? ⟨W.heap.size, 0, none⟩ = some (.int .i64 x.at0) := (by unfold World.cell?; simp only [m3]; rfl); have m5 : W3.cell? ⟨W.heap.size, 1, none⟩ = some (.int .i64 x.old) := (by unfold World.cell?; simp only [m3]; rfl); clear hu3 m3)
            have hpv := Upd.alloc1 (fun _ => False) W3 (.cells #[.int .i64 (inAt x (x.at0 + D) p side), .bool g3, .int .i64 i3, .int .i64 o3] 31)
            have v1 := (hpv.cell (o := 0) l1 (fun h => h)).trans m1
            have v4 := (hpv.cell (o := 0) n3 (fun h => h)).trans m4
            have hvb := heap_alloc_new W3 (.cells #[.int .i64 (inAt x (x.at0 + D) p side), .bool g3, .int .i64 i3, .int .i64 o3] 31)
            have HPV := As.mk (Upd.trans (HPA.out.trans HU3.out (fun _ _ h => h)) hpv (fun _ _ h => h))
            generalize (W3.alloc (.cells #[.int .i64 (inAt x (x.at0 + D) p side), .bool g3, .int .i64 i3, .int .i64 o3] 31)) = V at *
            obtain ⟨e0, e1, e2, e3, f0, f1, f2, f3⟩ := cells4 hvb
            have k3 := (HPV.out.block _ (lt_of_block HBX.out.h3) (fun h => h)).trans HBX.out.h3
            have k4 := (HPV.out.block _ (lt_of_block HBX.out.h4) (fun h => h)).trans HBX.out.h4
            have n7 : w.heap.size + 1 + 1 + 1 < W.heap.size := lt_of_block HBX.out.h3
            have n9 : w.heap.size + 1 + 1 + 1 + 1 < W.heap.size := lt_of_block HBX.out.h4
            have u3 := (Below.heap_setCell (V.setCell ⟨W3.heap.size, 2, none⟩ (.int .i64 ((k.val : Nat) : Int))) ⟨W3.heap.size, 3, none⟩ (.int .i64 (p - x.at0)) (w.heap.size + 1 + 1 + 1) (by show w.heap.size + 1 + 1 + 1 ≠ W3.heap.size; omega)).trans ((Below.heap_setCell V ⟨W3.heap.size, 2, none⟩ (.int .i64 ((k.val : Nat) : Int)) (w.heap.size + 1 + 1 + 1) (by show w.heap.size + 1 + 1 + 1 ≠ W3.heap.size; omega)).trans k3)
            have u4 := (Below.heap_setCell (V.setCell ⟨W3.heap.size, 2, none⟩ (.int .i64 ((k.val : Nat) : Int))) ⟨W3.heap.size, 3, none⟩ (.int .i64 (p - x.at0)) (w.heap.size + 1 + 1 + 1 + 1) (by show w.heap.size + 1 + 1 + 1 + 1 ≠ W3.heap.size; omega)).trans ((Below.heap_setCell V ⟨W3.heap.size, 2, none⟩ (.int .i64 ((k.val : Nat) : Int)) (w.heap.size + 1 + 1 + 1 + 1) (by show w.heap.size + 1 + 1 + 1 + 1 ≠ W3.heap.size; omega)).trans k4)
            have hfin := As.mk (map_end u3 u4 (by omega) (.int .i64 (inAt x (x.at0 + D) p side)) (.bool g3) (.int .i64 ((k.val : Nat) : Int)) (.int .i64 (p - x.at0)) (.int .i64 0))
            have hU := As.mk (Upd.trans (((HPV.out.mono (S' := fun j => j = w.heap.size + 1 + 1 + 1 ∨ j = w.heap.size + 1 + 1 + 1 + 1) (fun _ _ h => h.elim)).setCell (p := ⟨W3.heap.size, 2, none⟩) (fun h => by have : W3.heap.size < W.heap.size := h; omega) (.int .i64 ((k.val : Nat) : Int))).setCell (p := ⟨W3.heap.size, 3, none⟩) (fun h => by have : W3.heap.size < W.heap.size := h; omega) (.int .i64 (p - x.at0))) hfin.out.2.2.2 (fun _ _ h => h))
            obtain ⟨y0, y1, y2, y3, g0, g1, g2, g4⟩ := cells4 k3
            have z4 := free_of_one k4
            have zz4 := cell_of_one k4
            have HVB := As.mk hvb
            clear hpv hvb m1 m2 m4 m5 HU3 HW r0 r1 r2 q0 q1 q2 q8 f8 u3 u4 k3 k4
            refine wpIn_region_T (P := Tryd.prog) (fun v => v.cell? ⟨w.heap.size + 1, 0, none⟩ = some (.int .i64 p) ∧ v.cell? ⟨W.heap.size, 0, none⟩ = some (.int .i64 x.at0)) 8 (by kernel_rfl) (by kernel_rfl) ?_ (fun hHeld => ?_)
            · first | exact ⟨v1, v4⟩ | exact ⟨by simpa using v1, by simpa using v4⟩ | exact ⟨(World.cell?_setCell_far _ _ _ _ (by show W3.heap.size ≠ w.heap.size + 1; omega)).trans v1, (World.cell?_setCell_far _ _ _ _ (by show W3.heap.size ≠ W.heap.size; omega)).trans v4⟩
            refine takeT 0 (by exact opAt rfl) (by kernel_rfl) (by exact fun _ _ _ h => h) (by rfl) (by intro w hSw; (try dsimp only at hSw); go_simp; try with_reducible rfl) (by assumption) ?_
            (try simp only [Act.put, List.setIfInBounds_toArray, List.set_cons_zero, List.set_cons_succ])
            refine takeT 1 (by exact opAt rfl) (by kernel_rfl) (by exact fun _ _ _ h => h) (by rfl) (by intro w hSw; (try dsimp only at hSw); go_simp; try with_reducible rfl) (by assumption) ?_
            (try simp only [Act.put, List.setIfInBounds_toArray, List.set_cons_zero, List.set_cons_succ])
            refine takeT 2 (by exact opAt rfl) (by kernel_rfl) (by exact fun _ _ _ h => h) (by rfl) (by intro w hSw; (try dsimp only at hSw); go_simp; try with_reducible rfl) (by assumption) ?_
            (try simp only [Act.put, List.setIfInBounds_toArray, List.set_cons_zero, List.set_cons_succ])
            refine takeT 3 (by exact opAt rfl) (by kernel_rfl) (by exact fun _ _ _ h => h) (by rfl) (by intro w hSw; (try dsimp only at hSw); go_simp; try with_reducible rfl) (by assumption) ?_
            (try simp only [Act.put, List.setIfInBounds_toArray, List.set_cons_zero, List.set_cons_succ])
            refine takeT 4 (by exact opAt rfl) (by kernel_rfl) (by exact fun _ _ _ h => h) (by rfl) (by intro w hSw; (try dsimp only at hSw); go_simp; try with_reducible rfl) (by assumption) ?_
            (try simp only [Act.put, List.setIfInBounds_toArray, List.set_cons_zero, List.set_cons_succ])
            refine takeT 5 (by exact opAt rfl) (by kernel_rfl) (by exact fun _ _ _ h => h) (by rfl) (by intro w hSw; (try dsimp only at hSw); go_simp; try with_reducible rfl) (by assumption) ?_
            (try simp only [Act.put, List.setIfInBounds_toArray, List.set_cons_zero, List.set_cons_succ])
            refine wpAnyT_one (i := 6) (by kernel_rfl) (by exact opAt rfl) (fun K hK => ?_)
            go_simp
            refine hK.out _ _ (fun _ => by first | exact ⟨v1, v4⟩ | exact ⟨by simpa using v1, by simpa using v4⟩ | exact ⟨(World.cell?_setCell_far _ _ _ _ (by show W3.heap.size ≠ w.heap.size + 1; omega)).trans v1, (World.cell?_setCell_far _ _ _ _ (by show W3.heap.size ≠ W.heap.size; omega)).trans v4⟩) (fun hHeld => ?_)
            replace hHeld := hHeld (by decide)
            clear hK K
            (try simp only [Act.put, List.setIfInBounds_toArray, List.set_cons_zero, List.set_cons_succ])
            refine takeT 7 (by exact opAt rfl) (by kernel_rfl) (by exact fun _ _ _ h => h) (by rfl) (by intro w hSw; (try dsimp only at hSw); go_simp; try with_reducible rfl) (by assumption) ?_
            (try simp only [Act.put, List.setIfInBounds_toArray, List.set_cons_zero, List.set_cons_succ])
            refine wpAnyT_one (i := 8) (by kernel_rfl) (by exact opAt rfl) (fun K hK => ?_)
            go_simp
            refine hK.out _ _ (fun h => absurd rfl h) (fun hHeld => ?_)
            clear hK K
            (try simp only [Act.put, List.setIfInBounds_toArray, List.set_cons_zero, List.set_cons_succ])
            refine wpAnyT_done (by kernel_rfl) ?_ _
            refine ⟨by simp, ?_⟩
            clear v1 v4
            gi_wp2
            have hko := ((KeepsOthers.of_grownBy (pure_grown HPV.out) (fun _ _ e => by cases e)).trans ((KeepsOthers.setCell V ⟨W3.heap.size, 2, none⟩ (.int .i64 ((k.val : Nat) : Int))).trans (KeepsOthers.setCell (V.setCell ⟨W3.heap.size, 2, none⟩ (.int .i64 ((k.val : Nat) : Int))) ⟨W3.heap.size, 3, none⟩ (.int .i64 (p - x.at0))))).trans hfin.out.2.2.1
            refine ⟨hko.trans (KeepsOthers.drew _), .inr ⟨rfl, pre, k, rfl, hps, ?_, ?_, g3, ((k.val : Nat) : Int), p - x.at0, ?_, ?_⟩, ?_⟩
            · rw [HX.out]
              have := HLT.out
              omega
            · rw [HX.out]
              have := HLE.out
              omega
            · rw [HX.out, HD.out]
              exact drew_blk hfin.out.1
            · exact drew_blk hfin.out.2.1
            · exact Pure.below (Upd.trans (Upd.of_below hB) hU.out.drew (fun j hj h => by omega))
      · have t2 : decide (p ≤ x.at0 + x.old) = false := by simpa using hle
        have HLE := As.mk hle
        have hset := As.mk ((Upd.setCell1 (S := fun k => k = w1.heap.size) W (p := ⟨w1.heap.size, 0, none⟩) rfl (.int .i64 (p + (x.at0 + D) - x.at0 + x.new - x.old))).alloc (.cells #[.int .i64 x.at0, .int .i64 x.old, .int .i64 x.new] 47))
        have hone := As.mk ((Below.heap_alloc (W.setCell ⟨w1.heap.size, 0, none⟩ (.int .i64 (p + (x.at0 + D) - x.at0 + x.new - x.old))) (.cells #[.int .i64 x.at0, .int .i64 x.old, .int .i64 x.new] 47) w1.heap.size (by simp [World.setCell]; omega)).trans (one_setCell (u := .int .i64 (p + (x.at0 + D) - x.at0 + x.new - x.old)) HBX.out.h8))
        clear hle hlt
        gi_wp2
        have hbnd := HBD.out
        have hlast : p + lastD m (pre ++ [k]) = p + (x.at0 + D) - x.at0 + x.new - x.old := by
          rw [lastD_snoc, dsum_succ (List.getElem?_eq_getElem k.isLt), HX.out, HD.out]
          omega
        have hu3 := hset.out
        have hu2 : KpU w.heap.size (w1.heap.size + 1) W _ := hu3.mono (fun k hk h => ⟨by omega, .inl (by omega)⟩)
        refine ⟨(KeepsOthers.setCell _ _ _).trans (KeepsOthers.alloc _ _), hu2, ⟨HBX.out.upd hu3 (fun k h1 h2 h => by omega) ?_, ?_⟩, Pure.below (Upd.trans (Upd.of_below hB) hu3 (fun k hk h => by omega))⟩
        · rw [hlast]
          exact hone.out
        · intro j hj
          rcases List.mem_append.1 hj with hj | hj
          · exact hps j hj
          · rw [List.mem_singleton.1 hj, HX.out]
            have := HLE.out
            omega
  case done =>
    rintro D ys W hD rfl ⟨⟨hb, hps⟩, hB⟩ hK
    have hv := map_done (side := side) HO.out hps
    generalize p + lastD m (finL m.length) = av at hb hv
    obtain ⟨e0, e1, e2, e3, f0, f1, f2, f3⟩ := cells4 hb.h3
    have q8 := cell_of_one hb.h8
    have q4 := cell_of_one hb.h4
    have f4 := free_of_one hb.h4
    have hE := As.mk (map_end hb.h3 hb.h4 (by omega) (.int .i64 av) (.bool false) (.int .i64 (-1)) (.int .i64 0) (.int .i64 0))
    have HV := As.mk hv
    clear hv
    gi_wp2
    go_wp2
    have hv := HV.out
    obtain ⟨v3, v4, hko, hup⟩ := hE.out
    clear e0 e1 e2 e3 f0 f1 f2 f3 q8 q4 f4
    have hK' := hko.same D _ hK rfl
    refine ⟨by simp, .inl ⟨_, _, rfl, run_takeDeferred hK', ?_⟩⟩
    have v3' := blk_kept v3 (grownBy_putObj' _ D (.deferred none)) (fun r e => by cases e; exact ⟨_, hK', rfl⟩)
    have v4' := blk_kept v4 (grownBy_putObj' _ D (.deferred none)) (fun r e => by cases e; exact ⟨_, hK', rfl⟩)
    obtain ⟨e0, e1, e2, e3, f0, f1, f2, f3⟩ := cells4 v3'
    have e4 := cell_of_one v4'
    clear v3' v4' f0 f1 f2 f3
    refine ⟨.tuple #[.agg #[.int .i64 av, .bool false, .int .i64 (-1), .int .i64 0], .int .i64 0], ?_, ?_, Upd.of_below (Below.trans (Pure.below (Upd.trans (Upd.of_below hB) hup (fun k hk h => by omega))) (belowK_b (w := w) (Nat.le_refl _) _ D _ _ (by omega) hK' rfl rfl))⟩
    · simp [results, Tryd.f7, go_sem, e0, e1, e2, e3, e4]
    · rw [hv]
      exact ⟨_, _, _, rfl⟩
  case stop =>
    rintro D cc pre W hD hpre ⟨hh, hB⟩ hK
    rcases hh with ⟨rfl, pre', k, rfl, hps, hlt, hb⟩ | ⟨rfl, pre', k, rfl, hps, hge, hle, g, i, o, hb3, hb4⟩
    · have hv := map_break (side := side) HO.out hpre hps hlt
      generalize p + lastD m pre' = av at hb hv
      obtain ⟨e0, e1, e2, e3, f0, f1, f2, f3⟩ := cells4 hb.h3
      have q8 := cell_of_one hb.h8
      have q4 := cell_of_one hb.h4
      have f4 := free_of_one hb.h4
      have hE := As.mk (map_end hb.h3 hb.h4 (by omega) (.int .i64 av) (.bool false) (.int .i64 (-1)) (.int .i64 0) (.int .i64 0))
      have HV := As.mk hv
      clear hv hlt
      gi_wp2
      go_wp2
      have hv := HV.out
      obtain ⟨v3, v4, hko, hup⟩ := hE.out
      clear e0 e1 e2 e3 f0 f1 f2 f3 q8 q4 f4
      have hK' := hko.same D _ hK rfl
      refine ⟨by simp, .inl ⟨_, _, rfl, run_takeDeferred hK', ?_⟩⟩
      have v3' := blk_kept v3 (grownBy_putObj' _ D (.deferred none)) (fun r e => by cases e; exact ⟨_, hK', rfl⟩)
      have v4' := blk_kept v4 (grownBy_putObj' _ D (.deferred none)) (fun r e => by cases e; exact ⟨_, hK', rfl⟩)
      obtain ⟨e0, e1, e2, e3, f0, f1, f2, f3⟩ := cells4 v3'
      have e4 := cell_of_one v4'
      clear v3' v4' f0 f1 f2 f3
      refine ⟨.tuple #[.agg #[.int .i64 av, .bool false, .int .i64 (-1), .int .i64 0], .int .i64 0], ?_, ?_, Upd.of_below (Below.trans (Pure.below (Upd.trans (Upd.of_below hB) hup (fun k hk h => by omega))) (belowK_b (w := w) (Nat.le_refl _) _ D _ _ (by omega) hK' rfl rfl))⟩
      · simp [results, Tryd.f7, go_sem, e0, e1, e2, e3, e4]
      · rw [hv]
        exact ⟨_, _, _, rfl⟩
    · have hv := map_ret (side := side) HO.out hpre hps hge hle
      generalize inAt m[k.val] ((m[k.val]).at0 + dsum m k.val) p side = av at hb3 hv
      have HV := As.mk hv
      clear hv hge hle
      gi_wp2
      have hv := HV.out
      have v3 := hb3
      have v4 := hb4
      have hko := KeepsOthers.refl W
      have hup : Upd (fun k => False) W W := Upd.refl _ W
      have hK' := hko.same D _ hK rfl
      refine ⟨by simp, .inl ⟨_, _, rfl, run_takeDeferred hK', ?_⟩⟩
      have v3' := blk_kept v3 (grownBy_putObj' _ D (.deferred none)) (fun r e => by cases e; exact ⟨_, hK', rfl⟩)
      have v4' := blk_kept v4 (grownBy_putObj' _ D (.deferred none)) (fun r e => by cases e; exact ⟨_, hK', rfl⟩)
      obtain ⟨e0, e1, e2, e3, f0, f1, f2, f3⟩ := cells4 v3'
      have e4 := cell_of_one v4'
      clear v3' v4' f0 f1 f2 f3
      refine ⟨.tuple #[.agg #[.int .i64 av, .bool g, .int .i64 i, .int .i64 o], .int .i64 0], ?_, ?_, Upd.of_below (Below.trans (Pure.below (Upd.trans (Upd.of_below hB) hup (fun k hk h => by omega))) (belowK_b (w := w) (Nat.le_refl _) _ D _ _ (by omega) hK' rfl rfl))⟩
      · simp [results, Tryd.f7, go_sem, e0, e1, e2, e3, e4]
      · rw [hv]
        exact ⟨_, _, _, rfl⟩
end Go.Proofs.YtfapglhdakhbeaaDoor
namespace Go.Proofs.YtfapglhdakhbeaaDoor
open Go.RowKit Go.Shelf
set_option linter.unusedVariables false
set_option linter.unusedSimpArgs false

attribute [local go_sem] Oper.semAt_some

/-- What pos.Map leaves where it refuses. -/
theorem map_bad {w w1 : World} {c0 c1 c2 : Array Value} {t0 t1 t2 : TypeId} {e : Int} (hu : Pure (((((w.alloc (.cells c0 t0)).alloc (.cells c1 t1)).alloc (.cells c2 t2)).alloc (.cells #[.int .i64 0, .bool false, .int .i64 0, .int .i64 0] 31)).alloc (.cells #[.int .i64 0] 23)) w1) :
    Pure w (((((w1.setCell ⟨w.heap.size + 1 + 1 + 1, 0, none⟩ (.int .i64 0)).setCell ⟨w.heap.size + 1 + 1 + 1, 1, none⟩ (.bool false)).setCell ⟨w.heap.size + 1 + 1 + 1, 2, none⟩ (.int .i64 0)).setCell ⟨w.heap.size + 1 + 1 + 1, 3, none⟩ (.int .i64 0)).setCell ⟨w.heap.size + 1 + 1 + 1 + 1, 0, none⟩ (.int .i64 e)) := by
  obtain ⟨k0, k1, k2, k3, k4, hs, hp1⟩ := boxes5 hu
  exact Upd.trans hp1 (map_end k3 k4 (by omega) _ _ _ _ _).2.2.2 (fun k hk h => by omega)
set_option maxRecDepth 100000 in
set_option maxHeartbeats 4000000 in
theorem map_err {w : World} {F : Nat → Prop} {A : Option Addr} {c : Nat} {m : List Rng} {p side : Int} (hr : rngR.row w F A m) (hb : m.length ≤ 1048576) (h : rightB' m = false) :
    Calls Tryd.prog 7 #[.slice A m.length c, .int .i64 p, .int .i64 side] w fun r w' => SpotE 0 4 r ∧ Pure w w' := by
  have HRC := As.mk (fun (W : World) (hu : Pure w W) => Right_calls (c := c) (Rp.row_pure hr hu) hb)
  rw [h] at HRC
  clear hr h hb
  refine (callsIn_wide (n := 6)).1 ?_
  refine callsIn_of_wp_marks Tryd.func7 rfl trivial ?_ rfl
  simp only [Tryd.ntmps7, List.size_toArray, List.length_cons, List.length_nil, Nat.reduceAdd, Nat.reduceSub, Array.replicate_succ, Array.replicate_zero, List.push_toArray, List.append_toArray, List.nil_append, List.cons_append]
  refine wpIn_wide.2 ?_
  go_wp2_with (go_at_call 11; refine (HRC.out _ (((((Upd.alloc1 _ _ _).alloc _).alloc _).alloc _).alloc _)).mono ?_; rintro e w1 ⟨rfl, hu⟩; have HE := As.mk (map_bad (e := 4) hu); obtain ⟨k0, k1, k2, k3, k4, hs, hp1⟩ := boxes5 hu; have HF := As.mk (map_end k3 k4 (by omega) (.int .i64 0) (.bool false) (.int .i64 0) (.int .i64 0) (.int .i64 4)); obtain ⟨e0, e1, e2, e3, f0, f1, f2, f3⟩ := cells4 k3; have e4 := cell_of_one k4; have f4 := free_of_one k4; clear hu k0 k1 k2 k3 k4 hp1 hs)
  clear e0 e1 e2 e3 f0 f1 f2 f3 e4 f4
  obtain ⟨v3, v4, _, _⟩ := HF.out
  obtain ⟨e0, e1, e2, e3, f0, f1, f2, f3⟩ := cells4 v3
  have e4 := cell_of_one v4
  clear v3 v4 f0 f1 f2 f3
  refine ⟨.tuple #[.agg #[.int .i64 0, .bool false, .int .i64 0, .int .i64 0], .int .i64 4], ?_, ⟨_, _, _, rfl⟩, HE.out⟩
  simp [results, Tryd.f7, go_sem, e0, e1, e2, e3, e4]
set_option maxRecDepth 100000 in
set_option maxHeartbeats 4000000 in
theorem map_arg {w : World} {F : Nat → Prop} {A : Option Addr} {c : Nat} {m : List Rng} {p side : Int} (hr : rngR.row w F A m) (hb : m.length ≤ 1048576) (h : rightB' m = true) (hp : p < 0 ∨ 65536 < p) :
    Calls Tryd.prog 7 #[.slice A m.length c, .int .i64 p, .int .i64 side] w fun r w' => SpotE 0 1 r ∧ Pure w w' := by
  have HRC := As.mk (fun (W : World) (hu : Pure w W) => Right_calls (c := c) (Rp.row_pure hr hu) hb)
  rw [h] at HRC
  clear hr h hb
  refine (callsIn_wide (n := 6)).1 ?_
  refine callsIn_of_wp_marks Tryd.func7 rfl trivial ?_ rfl
  simp only [Tryd.ntmps7, List.size_toArray, List.length_cons, List.length_nil, Nat.reduceAdd, Nat.reduceSub, Array.replicate_succ, Array.replicate_zero, List.push_toArray, List.append_toArray, List.nil_append, List.cons_append]
  refine wpIn_wide.2 ?_
  by_cases h0 : p < 0
  · have d0 : decide (p < 0) = true := by simpa using h0
    clear hp h0
    go_wp2_with (go_at_call 11; refine (HRC.out _ (((((Upd.alloc1 _ _ _).alloc _).alloc _).alloc _).alloc _)).mono ?_; rintro e w1 ⟨rfl, hu⟩; have HE := As.mk (map_bad (e := 1) hu); obtain ⟨k0, k1, k2, k3, k4, hs, hp1⟩ := boxes5 hu; have HF := As.mk (map_end k3 k4 (by omega) (.int .i64 0) (.bool false) (.int .i64 0) (.int .i64 0) (.int .i64 1)); have q1 := cell_of_one k1; obtain ⟨e0, e1, e2, e3, f0, f1, f2, f3⟩ := cells4 k3; have e4 := cell_of_one k4; have f4 := free_of_one k4; clear hu k0 k1 k2 k3 k4 hp1 hs)
    clear e0 e1 e2 e3 f0 f1 f2 f3 e4 f4
    obtain ⟨v3, v4, _, _⟩ := HF.out
    obtain ⟨e0, e1, e2, e3, f0, f1, f2, f3⟩ := cells4 v3
    have e4 := cell_of_one v4
    clear v3 v4 f0 f1 f2 f3
    refine ⟨.tuple #[.agg #[.int .i64 0, .bool false, .int .i64 0, .int .i64 0], .int .i64 1], ?_, ⟨_, _, _, rfl⟩, HE.out⟩
    simp [results, Tryd.f7, go_sem, e0, e1, e2, e3, e4]
  · have d0 : decide (p < 0) = false := by simpa using h0
    have d1 : decide (65536 < p) = true := by simp; omega
    have d2 : decide (p > 65536) = true := by simp; omega
    clear hp h0
    go_wp2_with (go_at_call 11; refine (HRC.out _ (((((Upd.alloc1 _ _ _).alloc _).alloc _).alloc _).alloc _)).mono ?_; rintro e w1 ⟨rfl, hu⟩; have HE := As.mk (map_bad (e := 1) hu); obtain ⟨k0, k1, k2, k3, k4, hs, hp1⟩ := boxes5 hu; have HF := As.mk (map_end k3 k4 (by omega) (.int .i64 0) (.bool false) (.int .i64 0) (.int .i64 0) (.int .i64 1)); have q1 := cell_of_one k1; obtain ⟨e0, e1, e2, e3, f0, f1, f2, f3⟩ := cells4 k3; have e4 := cell_of_one k4; have f4 := free_of_one k4; clear hu k0 k1 k2 k3 k4 hp1 hs)
    clear e0 e1 e2 e3 f0 f1 f2 f3 e4 f4
    obtain ⟨v3, v4, _, _⟩ := HF.out
    obtain ⟨e0, e1, e2, e3, f0, f1, f2, f3⟩ := cells4 v3
    have e4 := cell_of_one v4
    clear v3 v4 f0 f1 f2 f3
    refine ⟨.tuple #[.agg #[.int .i64 0, .bool false, .int .i64 0, .int .i64 0], .int .i64 1], ?_, ⟨_, _, _, rfl⟩, HE.out⟩
    simp [results, Tryd.f7, go_sem, e0, e1, e2, e3, e4]
/-- pos.Map. -/
theorem map_calls {w : World} {F : Nat → Prop} {A : Option Addr} {c : Nat} {m : List Rng} (hr : rngR.row w F A m) (hb : m.length ≤ 1048576) : MapC w A c m := by
  intro W hW p side
  have hr' := Rp.row_pure hr hW
  by_cases h : rightB' m = false
  · have e : mapV m p side = (0, 4) := by unfold mapV; rw [if_pos h]
    rw [e]
    exact map_err hr' hb h
  · by_cases hp : p < 0 ∨ 65536 < p
    · have e : mapV m p side = (0, 1) := by unfold mapV; rw [if_neg h, if_pos hp]
      rw [e]
      exact map_arg hr' hb (by simpa using h) hp
    · have e : mapV m p side = (mapGo p side 0 m, 0) := by unfold mapV; rw [if_neg h, if_neg hp]
      rw [e]
      exact map_main hr' (by simpa using h) (by omega)
end Go.Proofs.YtfapglhdakhbeaaDoor
