/- schema.Holds. -/
import Derived.Test.YteeindicpbcjaaaGreatDoorMayW
namespace Go.Proofs.YteeindicpbcjaaaGreatDoor
open Go.RowKit
set_option linter.unusedVariables false
set_option linter.unusedSimpArgs false

theorem results_cell_tmp {P : Program} {fn : Func} {p q : Tmp} {ty : TypeId} (h : fn.results = #[.cell p ty, .tmp q]) (tmps : Array Value) (w : World) (g : Nat) (t : TypeId) (cs : Array Value) (fr : Nat × Nat) (d : TypeDesc)
    (hp : tmps.getD p undef = .pointer (some ⟨g, 0, none⟩)) (hg : w.heap[g]? = some (.cells cs t fr))
    (hu : P.underlying ty = some d) (hd : (match d with | .struct _ | .array _ _ => true | _ => false) = true) (hi : (P.info? ty).map (·.size) = some cs.size) :
    (results fn tmps).run P w = .ok (.tuple #[.agg cs, tmps.getD q undef]) w := by
  have hp' : tmps[p]?.getD undef = .pointer (some ⟨g, 0, none⟩) := by simpa using hp
  simp [results, h, hp', asAddr, run_loadVar_row w g t ty cs fr d hg hu hd hi]
theorem set7 {w : World} {rb : Nat} {x0 x1 x2 x3 x4 x5 x6 : Value} {t : TypeId} {fr : Nat × Nat} (h : w.heap[rb]? = some (.cells #[x0, x1, x2, x3, x4, x5, x6] t fr)) (y0 y1 y2 y3 y4 y5 y6 : Value) :
    (((((((w.setCell ⟨rb, 0, none⟩ y0).setCell ⟨rb, 1, none⟩ y1).setCell ⟨rb, 2, none⟩ y2).setCell ⟨rb, 3, none⟩ y3).setCell ⟨rb, 4, none⟩ y4).setCell ⟨rb, 5, none⟩ y5).setCell ⟨rb, 6, none⟩ y6).heap[rb]? = some (.cells #[y0, y1, y2, y3, y4, y5, y6] t fr) := by simp [World.setCell, Array.getElem?_modify, h]
theorem set7_upd (w : World) (rb : Nat) (y0 y1 y2 y3 y4 y5 y6 : Value) : Upd (fun k => k = rb) w (((((((w.setCell ⟨rb, 0, none⟩ y0).setCell ⟨rb, 1, none⟩ y1).setCell ⟨rb, 2, none⟩ y2).setCell ⟨rb, 3, none⟩ y3).setCell ⟨rb, 4, none⟩ y4).setCell ⟨rb, 5, none⟩ y5).setCell ⟨rb, 6, none⟩ y6) :=
  (Upd.refl (fun k => k = rb) w)|>.setCell (p := ⟨rb, 0, none⟩) (fun _ => rfl) _ |>.setCell (p := ⟨rb, 1, none⟩) (fun _ => rfl) _ |>.setCell (p := ⟨rb, 2, none⟩) (fun _ => rfl) _ |>.setCell (p := ⟨rb, 3, none⟩) (fun _ => rfl) _ |>.setCell (p := ⟨rb, 4, none⟩) (fun _ => rfl) _ |>.setCell (p := ⟨rb, 5, none⟩) (fun _ => rfl) _ |>.setCell (p := ⟨rb, 6, none⟩) (fun _ => rfl) _ 
set_option maxRecDepth 100000 in
set_option maxHeartbeats 4000000 in
theorem Holds_none {w : World} {cb : Nat} {F : Nat → Prop} {A : Option Addr} {c : Nat} {l : List Tok} {n : Nat} (h : SchR w cb houseRules houseGroups) (hr : tokR.row w F A l) (hb : l.length ≤ 2048) (hlc : l.length ≤ c) (ok : (houseCheck l).2 = 0) (hn : n ≤ l.length) (ha : aroundL l n = -1) :
    Calls Tryz.prog 60 #[.pointer (some ⟨cb, 0, none⟩), .slice A l.length c, .int .i64 n] w fun r w' => r = .returned (.tuple #[zeroSpec.val, .bool false]) ∧ Pure w w' := by
  have HCK := As.mk (fun (W : World) (hu : Pure w W) => house_check (c := c) (h.pure hu) (Rp.row_pure hr hu) (by omega))
  rw [ok] at HCK
  have HAR := As.mk (fun (W : World) (hu : Pure w W) => around_calls (c := c) (at' := (n : Int)) (Rp.row_pure hr hu) (by omega) hlc)
  rw [ha] at HAR
  have HBX := As.mk (heap_alloc_new w (.cells #[.string ⟨#[]⟩, .string ⟨#[]⟩, .bool false, .int .i64 0, .int .i64 0, .int .i64 0, .bool false] 59))
  clear h hr ok ha
  go_enter Tryz.func60, Tryz.ntmps60
  go_wp2_with (first | (go_at_call 30; refine (HCK.out w1 HU1.out).mono ?_; rintro r w2 ⟨rfl, hu⟩; have HU2 := As.mk (HU1.out.trans hu (fun _ _ h => h)); have HP2 := As.mk (HP1.out.trans hu (fun _ _ h => h)); clear hu; apply As.out) | (go_at_call 20; refine (HAR.out _ (Upd.alloc1 _ _ _)).mono ?_; rintro r w1 ⟨rfl, hu⟩; have HU1 := As.mk (Upd.trans (Upd.alloc1 (fun _ => False) _ _) hu (fun _ _ h => h)); have HP1 := As.mk hu; clear hu))
  refine ⟨?_⟩
  have HBW := As.mk ((HP2.out.block w.heap.size (by simp) (fun h => h)).trans HBX.out)
  have hbl : w.heap.size < w2.heap.size := (Array.getElem?_eq_some_iff.1 HBW.out).1
  have hcf : ∀ i, w2.frozen? ⟨w.heap.size, i, none⟩ = false := fun i => by simp [World.frozen?, HBW.out]
  have k0 : w2.cell? ⟨w.heap.size, 0, none⟩ = some (.string ⟨#[]⟩) := by unfold World.cell?; simp only [HBW.out]; rfl
  have j0 := hcf 0
  have k1 : w2.cell? ⟨w.heap.size, 1, none⟩ = some (.string ⟨#[]⟩) := by unfold World.cell?; simp only [HBW.out]; rfl
  have j1 := hcf 1
  have k2 : w2.cell? ⟨w.heap.size, 2, none⟩ = some (.bool false) := by unfold World.cell?; simp only [HBW.out]; rfl
  have j2 := hcf 2
  have k3 : w2.cell? ⟨w.heap.size, 3, none⟩ = some (.int .i64 0) := by unfold World.cell?; simp only [HBW.out]; rfl
  have j3 := hcf 3
  have k4 : w2.cell? ⟨w.heap.size, 4, none⟩ = some (.int .i64 0) := by unfold World.cell?; simp only [HBW.out]; rfl
  have j4 := hcf 4
  have k5 : w2.cell? ⟨w.heap.size, 5, none⟩ = some (.int .i64 0) := by unfold World.cell?; simp only [HBW.out]; rfl
  have j5 := hcf 5
  have k6 : w2.cell? ⟨w.heap.size, 6, none⟩ = some (.bool false) := by unfold World.cell?; simp only [HBW.out]; rfl
  have j6 := hcf 6
  clear hcf
  go_wp2
  obtain ⟨W5, hW5⟩ : ∃ W5, W5 = (((((((w2.setCell ⟨w.heap.size, 0, none⟩ (.string ⟨#[]⟩)).setCell ⟨w.heap.size, 1, none⟩ (.string ⟨#[]⟩)).setCell ⟨w.heap.size, 2, none⟩ (.bool false)).setCell ⟨w.heap.size, 3, none⟩ (.int .i64 0)).setCell ⟨w.heap.size, 4, none⟩ (.int .i64 0)).setCell ⟨w.heap.size, 5, none⟩ (.int .i64 0)).setCell ⟨w.heap.size, 6, none⟩ (.bool false)) := ⟨_, rfl⟩
  rw [← hW5]
  have hB5 : W5.heap[w.heap.size]? = some (.cells #[(.string ⟨#[]⟩), (.string ⟨#[]⟩), (.bool false), (.int .i64 0), (.int .i64 0), (.int .i64 0), (.bool false)] 59 (0, 0)) := hW5 ▸ set7 HBW.out (.string ⟨#[]⟩) (.string ⟨#[]⟩) (.bool false) (.int .i64 0) (.int .i64 0) (.int .i64 0) (.bool false)
  have HU5 := As.mk (show Pure w W5 from hW5 ▸ Upd.trans (HU2.out) (set7_upd _ _ (.string ⟨#[]⟩) (.string ⟨#[]⟩) (.bool false) (.int .i64 0) (.int .i64 0) (.int .i64 0) (.bool false)) (fun q hq h => by omega))
  exact bodyPost_ret (results_cell_tmp (P := Tryz.prog) rfl _ _ w.heap.size 59 _ _ _ rfl hB5 Tryz.underlying59 rfl (by kernel_rfl)) rfl ⟨rfl, HU5.out⟩
set_option maxRecDepth 100000 in
set_option maxHeartbeats 4000000 in
theorem Holds_in {w : World} {cb : Nat} {F : Nat → Prop} {A : Option Addr} {c : Nat} {l : List Tok} {n : Nat} (h : SchR w cb houseRules houseGroups) (hr : tokR.row w F A l) (hb : l.length ≤ 2048) (hlc : l.length ≤ c) (ok : (houseCheck l).2 = 0) (hn : n ≤ l.length) {j yt : Nat} {y : Tok} {x : Spec} {e : Ex} (ha : aroundL l n = j) (hy : l[j]? = some y) (hyt : y.t = yt) (hyt1 : 1 ≤ yt) (hyR : houseRules[yt]? = some (x, e)) :
    Calls Tryz.prog 60 #[.pointer (some ⟨cb, 0, none⟩), .slice A l.length c, .int .i64 n] w fun r w' => r = .returned (.tuple #[x.val, .bool true]) ∧ Pure w w' := by
  have HCK := As.mk (fun (W : World) (hu : Pure w W) => house_check (c := c) (h.pure hu) (Rp.row_pure hr hu) (by omega))
  rw [ok] at HCK
  have HAR := As.mk (fun (W : World) (hu : Pure w W) => around_calls (c := c) (at' := (n : Int)) (Rp.row_pure hr hu) (by omega) hlc)
  rw [ha] at HAR
  have HBX := As.mk (heap_alloc_new w (.cells #[.string ⟨#[]⟩, .string ⟨#[]⟩, .bool false, .int .i64 0, .int .i64 0, .int .i64 0, .bool false] 59))
  have HSP := As.mk (fun (W : World) (hu : Pure w W) => Spec_in (h.pure hu) hyR hyt1 (by rw [house_len]; decide))
  obtain ⟨bt, ot, rfl, _, hbt, q0, q1, q2, q3⟩ := tok_at hr hy
  rw [hyt] at q1
  have hjl : j < l.length := (List.getElem?_eq_some_iff.1 hy).1
  clear h hr ok ha hy hyt hyR q0 q2 q3
  go_enter Tryz.func60, Tryz.ntmps60
  go_wp2_with (first | (go_at_call 30; refine (HCK.out w1 HU1.out).mono ?_; rintro r w2 ⟨rfl, hu⟩; have HU2 := As.mk (HU1.out.trans hu (fun _ _ h => h)); have HP2 := As.mk (HP1.out.trans hu (fun _ _ h => h)); clear hu; apply As.out) | (go_at_call 20; refine (HAR.out _ (Upd.alloc1 _ _ _)).mono ?_; rintro r w1 ⟨rfl, hu⟩; have HU1 := As.mk (Upd.trans (Upd.alloc1 (fun _ => False) _ _) hu (fun _ _ h => h)); have HP1 := As.mk hu; clear hu))
  refine ⟨?_⟩
  have q5 := (HU2.out.cell (o := ot + j * 4 + 1) hbt (fun h => h)).trans q1
  go_wp2_with (go_at_call 81; refine (HSP.out w2 HU2.out).mono ?_; rintro r w3 ⟨rfl, hp⟩; have HU3 := As.mk (HU2.out.trans hp (fun _ _ h => h)); have HP3 := As.mk (HP2.out.trans hp (fun _ _ h => h)); clear hp; apply As.out)
  refine ⟨?_⟩
  have HBW := As.mk ((HP3.out.block w.heap.size (by simp) (fun h => h)).trans HBX.out)
  have hbl : w.heap.size < w3.heap.size := (Array.getElem?_eq_some_iff.1 HBW.out).1
  have hcf : ∀ i, w3.frozen? ⟨w.heap.size, i, none⟩ = false := fun i => by simp [World.frozen?, HBW.out]
  have k0 : w3.cell? ⟨w.heap.size, 0, none⟩ = some (.string ⟨#[]⟩) := by unfold World.cell?; simp only [HBW.out]; rfl
  have j0 := hcf 0
  have k1 : w3.cell? ⟨w.heap.size, 1, none⟩ = some (.string ⟨#[]⟩) := by unfold World.cell?; simp only [HBW.out]; rfl
  have j1 := hcf 1
  have k2 : w3.cell? ⟨w.heap.size, 2, none⟩ = some (.bool false) := by unfold World.cell?; simp only [HBW.out]; rfl
  have j2 := hcf 2
  have k3 : w3.cell? ⟨w.heap.size, 3, none⟩ = some (.int .i64 0) := by unfold World.cell?; simp only [HBW.out]; rfl
  have j3 := hcf 3
  have k4 : w3.cell? ⟨w.heap.size, 4, none⟩ = some (.int .i64 0) := by unfold World.cell?; simp only [HBW.out]; rfl
  have j4 := hcf 4
  have k5 : w3.cell? ⟨w.heap.size, 5, none⟩ = some (.int .i64 0) := by unfold World.cell?; simp only [HBW.out]; rfl
  have j5 := hcf 5
  have k6 : w3.cell? ⟨w.heap.size, 6, none⟩ = some (.bool false) := by unfold World.cell?; simp only [HBW.out]; rfl
  have j6 := hcf 6
  clear hcf
  go_wp2
  obtain ⟨W5, hW5⟩ : ∃ W5, W5 = (((((((w3.setCell ⟨w.heap.size, 0, none⟩ (.string x.name)).setCell ⟨w.heap.size, 1, none⟩ (.string x.expr)).setCell ⟨w.heap.size, 2, none⟩ (.bool x.leaf)).setCell ⟨w.heap.size, 3, none⟩ (.int .i64 x.marks)).setCell ⟨w.heap.size, 4, none⟩ (.int .i64 x.least)).setCell ⟨w.heap.size, 5, none⟩ (.int .i64 x.most)).setCell ⟨w.heap.size, 6, none⟩ (.bool x.lines)) := ⟨_, rfl⟩
  rw [← hW5]
  have hB5 : W5.heap[w.heap.size]? = some (.cells #[(.string x.name), (.string x.expr), (.bool x.leaf), (.int .i64 x.marks), (.int .i64 x.least), (.int .i64 x.most), (.bool x.lines)] 59 (0, 0)) := hW5 ▸ set7 HBW.out (.string x.name) (.string x.expr) (.bool x.leaf) (.int .i64 x.marks) (.int .i64 x.least) (.int .i64 x.most) (.bool x.lines)
  have HU5 := As.mk (show Pure w W5 from hW5 ▸ Upd.trans (HU3.out) (set7_upd _ _ (.string x.name) (.string x.expr) (.bool x.leaf) (.int .i64 x.marks) (.int .i64 x.least) (.int .i64 x.most) (.bool x.lines)) (fun q hq h => by omega))
  exact bodyPost_ret (results_cell_tmp (P := Tryz.prog) rfl _ _ w.heap.size 59 _ _ _ rfl hB5 Tryz.underlying59 rfl (by kernel_rfl)) rfl ⟨rfl, HU5.out⟩
end Go.Proofs.YteeindicpbcjaaaGreatDoor
