/- emenderlaw07.SchemaZero: a schema that nobody made. -/
import Derived.Test.YtgidokgidlecmaaStack
import Derived.Lib.SliceRun
namespace Go.Proofs.Ytgidokgidlecmaa
open Go.RowKit
set_option linter.unusedVariables false
set_option linter.unusedSimpArgs false

/-- A schema that nobody made. -/
def ZS (w : World) (v : Value) : Prop := v = .pointer none ∨ ∃ b, v = .pointer (some ⟨b, 0, none⟩) ∧ w.cell? ⟨b, 0, none⟩ = some (.slice none 0 0) ∧ b < w.heap.size
theorem ZS.pure {w w1 : World} {v : Value} (h : ZS w v) (hu : Pure w w1) : ZS w1 v := by
  rcases h with h | ⟨b, h1, h2, h3⟩
  · exact .inl h
  · exact .inr ⟨b, h1, (hu.cell h3 (fun h => h)).trans h2, Nat.lt_of_lt_of_le h3 hu.size⟩

set_option maxRecDepth 100000 in
set_option maxHeartbeats 4000000 in
theorem none_zero {w : World} {v : Value} (h : ZS w v) : Calls Try.prog 9 #[v] w fun e w' => e = .returned (.bool true) ∧ w = w' := by
  rcases h with rfl | ⟨b, rfl, hc, hb⟩
  · go_enter Try.func9, Try.ntmps9
    go_wp2
    go_ret
    exact ⟨rfl, rfl⟩
  · have heqn := fun (W : World) (a : Option Addr) (n c : Nat) => Lib.run_eql_slice_nil (P := Try.prog) W 24 46 a n c 0 0 Try.underlying24
    go_enter Try.func9, Try.ntmps9
    go_wp2
    go_ret
    exact ⟨rfl, rfl⟩

set_option maxRecDepth 100000 in
set_option maxHeartbeats 4000000 in
theorem check_zero {w : World} {v u : Value} (h : ZS w v) : Calls Try.prog 4 #[v, u] w fun e w' => e = .returned (.tuple #[.int .i64 0, .int .i64 7]) ∧ w = w' := by
  have HC := As.mk (none_zero h)
  clear h
  go_enter Try.func4, Try.ntmps4
  go_wp2_with (go_at_call 9; refine HC.out.mono ?_; rintro e w1 ⟨rfl, rfl⟩)
  go_ret2
  exact ⟨rfl, rfl⟩

abbrev zeroSpec : Value := .agg #[.string ⟨#[]⟩, .string ⟨#[]⟩, .bool false, .int .i64 0, .int .i64 0, .int .i64 0, .bool false]
set_option maxRecDepth 100000 in
set_option maxHeartbeats 4000000 in
theorem spec_zero {w : World} {v : Value} {t : Int} (h : ZS w v) : Calls Try.prog 5 #[v, .int .i64 t] w fun e w' => e = .returned (.tuple #[zeroSpec, .bool false]) ∧ Pure w w' := by
  have HC := As.mk (fun W (hu : Pure w W) => none_zero (h.pure hu))
  clear h
  go_enter Try.func5, Try.ntmps5
  go_wp2_with (go_at_call 9; refine (HC.out _ (Upd.alloc1 _ _ _)).mono ?_; rintro e w1 ⟨rfl, rfl⟩)
  exact bodyPost_ret (v := .tuple #[zeroSpec, .bool false]) (by simp [results, Try.results5, go_sem]) rfl ⟨rfl, Upd.alloc1 _ _ _⟩

set_option maxRecDepth 100000 in
set_option maxHeartbeats 4000000 in
theorem full_zero {w : World} {v : Value} {t r : Int} (h : ZS w v) : Calls Try.prog 14 #[v, .int .i64 t, .int .i64 r] w fun e w' => e = .returned (.tuple #[.slice none 0 0, .bool false]) ∧ Pure w w' := by
  have HC := As.mk (spec_zero (t := t) h)
  clear h
  go_enter Try.func14, Try.ntmps14
  go_wp2_with (go_at_call 5; refine HC.out.mono ?_; rintro e w1 ⟨rfl, hu⟩; have HU := As.mk hu; clear hu)
  go_ret2
  exact ⟨rfl, HU.out.alloc _⟩

set_option maxRecDepth 100000 in
set_option maxHeartbeats 4000000 in
theorem fill_zero {w : World} {v : Value} {t : Int} (h : ZS w v) : Calls Try.prog 6 #[v, .int .i64 t] w fun e w' => e = .returned (.tuple #[.slice none 0 0, .bool false]) ∧ Pure w w' := by
  have HC := As.mk (full_zero (t := t) (r := 32) h)
  clear h
  go_enter Try.func6, Try.ntmps6
  go_wp2_with (go_at_call 14; refine HC.out.mono ?_; rintro e w1 ⟨rfl, hu⟩; have HU := As.mk hu; clear hu)
  go_ret2
  exact ⟨rfl, HU.out⟩

theorem cells7 {w : World} {b : Nat} {x0 x1 x2 x3 x4 x5 x6 : Value} {t : TypeId} (h : w.heap[b]? = some (.cells #[x0, x1, x2, x3, x4, x5, x6] t (0, 0))) :
    (w.cell? ⟨b, 0, none⟩ = some x0 ∧ w.cell? ⟨b, 1, none⟩ = some x1 ∧ w.cell? ⟨b, 2, none⟩ = some x2 ∧ w.cell? ⟨b, 3, none⟩ = some x3 ∧ w.cell? ⟨b, 4, none⟩ = some x4 ∧ w.cell? ⟨b, 5, none⟩ = some x5 ∧ w.cell? ⟨b, 6, none⟩ = some x6) ∧
    (w.frozen? ⟨b, 0, none⟩ = false ∧ w.frozen? ⟨b, 1, none⟩ = false ∧ w.frozen? ⟨b, 2, none⟩ = false ∧ w.frozen? ⟨b, 3, none⟩ = false ∧ w.frozen? ⟨b, 4, none⟩ = false ∧ w.frozen? ⟨b, 5, none⟩ = false ∧ w.frozen? ⟨b, 6, none⟩ = false) := by
  refine ⟨⟨?_, ?_, ?_, ?_, ?_, ?_, ?_⟩, ⟨?_, ?_, ?_, ?_, ?_, ?_, ?_⟩⟩
  all_goals first | (unfold World.cell?; simp only [h]; rfl) | simp [World.frozen?, h]
theorem set7_upd (w : World) (rb : Nat) (y0 y1 y2 y3 y4 y5 y6 : Value) : Upd (fun k => k = rb) w (((((((w.setCell ⟨rb, 0, none⟩ y0).setCell ⟨rb, 1, none⟩ y1).setCell ⟨rb, 2, none⟩ y2).setCell ⟨rb, 3, none⟩ y3).setCell ⟨rb, 4, none⟩ y4).setCell ⟨rb, 5, none⟩ y5).setCell ⟨rb, 6, none⟩ y6) :=
  (((((((Upd.refl (fun k => k = rb) w).setCell (p := ⟨rb, 0, none⟩) (fun _ => rfl) _).setCell (p := ⟨rb, 1, none⟩) (fun _ => rfl) _).setCell (p := ⟨rb, 2, none⟩) (fun _ => rfl) _).setCell (p := ⟨rb, 3, none⟩) (fun _ => rfl) _).setCell (p := ⟨rb, 4, none⟩) (fun _ => rfl) _).setCell (p := ⟨rb, 5, none⟩) (fun _ => rfl) _).setCell (p := ⟨rb, 6, none⟩) (fun _ => rfl) _
set_option maxRecDepth 100000 in
set_option maxHeartbeats 4000000 in
theorem holds_zero {w : World} {v : Value} {F : Nat → Prop} {A : Option Addr} {c : Nat} {l : List Tok} {at' : Int} (h : ZS w v) (hr : tokR.row w F A l) (hb : l.length ≤ 1048576 * 4) (hlc : l.length ≤ c) :
    Calls Try.prog 7 #[v, .slice A l.length c, .int .i64 at'] w fun e w' => e = .returned (.tuple #[zeroSpec, .bool false]) ∧ Pure w w' := by
  have HC := As.mk (fun W (hu : Pure w W) => check_zero (u := .slice A l.length c) (h.pure hu))
  have HA := As.mk (fun W (hu : Pure w W) => around_calls (at' := at') (Rp.row_pure hr hu) hb hlc)
  clear h hr
  generalize aroundL l at' = r at *
  go_enter Try.func7, Try.ntmps7
  go_wp2_with (first | (go_at_call 15; refine (HA.out _ (Upd.alloc1 _ _ _)).mono ?_; rintro e w1 ⟨rfl, hu⟩; have HU := As.mk (Upd.trans (Upd.alloc1 (fun _ => False) _ _) hu (fun _ _ h => h)); have hz := hu.size; obtain ⟨⟨c0, c1, c2, c3, c4, c5, c6⟩, f0, f1, f2, f3, f4, f5, f6⟩ := cells7 ((hu.block w.heap.size (by simp) (fun h => h)).trans (heap_alloc_new w _)); clear hu) | (go_at_call 4; refine (HC.out _ HU.out).mono ?_; rintro e w2 ⟨rfl, rfl⟩))
  exact bodyPost_ret (v := .tuple #[zeroSpec, .bool false]) (by simp [results, Try.results7, go_sem, c0, c1, c2, c3, c4, c5, c6, f0, f1, f2, f3, f4, f5, f6]) rfl ⟨rfl, HU.out.trans (set7_upd _ _ _ _ _ _ _ _ _) (fun k hk h => by omega)⟩

set_option maxRecDepth 100000 in
set_option maxHeartbeats 4000000 in
theorem may_zero {w : World} {v : Value} {u : Value} {at' t : Int} (h : ZS w v) : Calls Try.prog 8 #[v, u, .int .i64 at', .int .i64 t] w fun e w' => e = .returned (.bool false) ∧ Pure w w' := by
  have HC := As.mk (check_zero (u := u) h)
  clear h
  go_enter Try.func8, Try.ntmps8
  go_wp2_with (go_at_call 4; refine HC.out.mono ?_; rintro e w2 ⟨rfl, rfl⟩)
  go_ret
  exact ⟨rfl, Upd.refl _ _⟩

set_option maxRecDepth 100000 in
set_option maxHeartbeats 4000000 in
theorem SchemaZero_walk {w : World} {F : Nat → Prop} {A : Option Addr} {c : Nat} {l : List Tok} {t : Int} (hr : tokR.row w F A l) (hb : l.length ≤ 1048576 * 4) (hlc : l.length ≤ c) :
    Calls Try.prog 3 #[.slice A l.length c, .int .i64 t] w fun e w' => e = .returned (.bool true) ∧ Pure w w' := by
  have hp0 : Pure w (w.alloc (.cells #[.slice none 0 0, .slice none 0 0] 27)) := Upd.alloc1 _ _ _
  have hz : ZS (w.alloc (.cells #[.slice none 0 0, .slice none 0 0] 27)) (.pointer (some ⟨w.heap.size, 0, none⟩)) := .inr ⟨_, rfl, by have hh := heap_alloc_new w (.cells #[.slice none 0 0, .slice none 0 0] 27); unfold World.cell?; simp only [hh]; rfl, by simp⟩
  have HN := As.mk (fun W => check_zero (w := W) (u := .slice A l.length c) (.inl rfl))
  have HZ := As.mk (fun W hu => check_zero (w := W) (u := .slice A l.length c) (hz.pure hu))
  have HS := As.mk (fun W => spec_zero (w := W) (t := t) (.inl rfl))
  have HF := As.mk (fun W hu => fill_zero (w := W) (t := t) (hz.pure hu))
  have HH := As.mk (fun W hu => holds_zero (w := W) (c := c) (at' := t) (hz.pure hu) (Rp.row_pure hr (hp0.trans hu (fun _ _ h => h))) hb hlc)
  have HM := As.mk (fun W => may_zero (w := W) (u := .slice A l.length c) (at' := t) (t := 0) (.inl rfl))
  have HMZ := As.mk (fun W hu => may_zero (w := W) (u := .slice A l.length c) (at' := t) (t := 0) (hz.pure hu))
  have HP0 := As.mk hp0
  clear hr hz hp0
  go_enter Try.func3, Try.ntmps3
  go_wp2_with (go_at_call 4; refine (HN.out _).mono ?_; rintro e w1 ⟨rfl, rfl⟩; apply As.out)
  refine ⟨?_⟩
  go_wp2_with (first | (go_at_call 4; refine (HZ.out _ (Upd.refl _ _)).mono ?_; rintro e w1 ⟨rfl, rfl⟩; apply As.out))
  refine ⟨?_⟩
  go_wp2_with (go_at_call 5; refine (HS.out _).mono ?_; rintro e w1 ⟨rfl, hu⟩; have HU1 := As.mk (show Pure (w.alloc (.cells #[.slice none 0 0, .slice none 0 0] 27)) (w1.alloc (.cells #[.string ⟨#[]⟩, .string ⟨#[]⟩, .bool false, .int .i64 0, .int .i64 0, .int .i64 0, .bool false] 32)) from hu.alloc _); clear hu; apply As.out)
  refine ⟨?_⟩
  go_wp2_with (go_at_call 6; refine (HF.out _ HU1.out).mono ?_; rintro e w2 ⟨rfl, hu⟩; have HU2 := As.mk (HU1.out.trans hu (fun _ _ h => h)); clear hu; apply As.out)
  refine ⟨?_⟩
  go_wp2_with (go_at_call 7; refine (HH.out _ HU2.out).mono ?_; rintro e w3 ⟨rfl, hu⟩; have HU3 := As.mk (show Pure (w.alloc (.cells #[.slice none 0 0, .slice none 0 0] 27)) (w3.alloc (.cells #[.string ⟨#[]⟩, .string ⟨#[]⟩, .bool false, .int .i64 0, .int .i64 0, .int .i64 0, .bool false] 32)) from (HU2.out.trans hu (fun _ _ h => h)).alloc _); clear hu; apply As.out)
  refine ⟨?_⟩
  go_wp2_with (go_at_call 8; refine (HM.out _).mono ?_; rintro e w4 ⟨rfl, hu⟩; have HU4 := As.mk (HU3.out.trans hu (fun _ _ h => h)); clear hu; apply As.out)
  refine ⟨?_⟩
  go_wp2_with (go_at_call 8; refine (HMZ.out _ HU4.out).mono ?_; rintro e w5 ⟨rfl, hu⟩; have HU5 := As.mk (HU4.out.trans hu (fun _ _ h => h)); clear hu)
  go_ret
  exact ⟨rfl, HP0.out.trans HU5.out (fun _ _ h => h)⟩
end Go.Proofs.Ytgidokgidlecmaa
