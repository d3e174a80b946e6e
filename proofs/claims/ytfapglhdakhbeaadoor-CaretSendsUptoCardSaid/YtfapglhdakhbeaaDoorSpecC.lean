/- schema: none, Spec. -/
import Derived.Test.YtfapglhdakhbeaaDoorHouse
namespace Go.Proofs.YtfapglhdakhbeaaDoor
open Go.RowKit
set_option linter.unusedVariables false
set_option linter.unusedSimpArgs false

set_option maxRecDepth 100000 in
set_option maxHeartbeats 4000000 in
theorem none_calls {w : World} {cb : Nat} {rs : List (Spec × Ex)} {gs : List Grp} (h : SchR w cb rs gs) (hne : rs ≠ []) : Calls Tryd.prog 30 #[.pointer (some ⟨cb, 0, none⟩)] w fun r w' => r = .returned (.bool false) ∧ w' = w := by
  obtain ⟨AL, cL, AG, cG, hb, hl, hr, hg⟩ := h
  rcases hr with h | ⟨b, o, rfl, _, _, _⟩
  · exact absurd h hne
  have c0 : w.cell? ⟨cb, 0, none⟩ = some (.slice (some ⟨b, o, none⟩) rs.length cL) := by
    unfold World.cell?; simp only [hb]; rfl
  have heqn := fun (W : World) (a : Option Addr) (n c : Nat) => Lib.run_eql_slice_nil (P := Tryd.prog) W 71 82 a n c 0 0 Tryd.underlying71
  clear hb hl hg
  go_enter Tryd.func30, Tryd.ntmps30
  go_wp2
  go_ret
  exact ⟨rfl, rfl⟩
theorem rule_at {w : World} {F : Nat → Prop} {A : Option Addr} {xs : List (Spec × Ex)} (h : ruleR.row w F A xs) {j : Nat} {x : Spec} {e : Ex} (hx : xs[j]? = some (x, e)) :
    ∃ b o A1 c1, A = some ⟨b, o, none⟩ ∧ F b ∧ b < w.heap.size ∧ w.cell? ⟨b, o + j * 10, none⟩ = some (.string x.name) ∧ w.cell? ⟨b, o + j * 10 + 1, none⟩ = some (.string x.expr) ∧ w.cell? ⟨b, o + j * 10 + 2, none⟩ = some (.bool x.leaf) ∧ w.cell? ⟨b, o + j * 10 + 3, none⟩ = some (.int .i64 x.marks) ∧ w.cell? ⟨b, o + j * 10 + 4, none⟩ = some (.int .i64 x.least) ∧ w.cell? ⟨b, o + j * 10 + 5, none⟩ = some (.int .i64 x.most) ∧ w.cell? ⟨b, o + j * 10 + 6, none⟩ = some (.bool x.lines) ∧ w.cell? ⟨b, o + j * 10 + 7, none⟩ = some (.int .i64 e.k) ∧ w.cell? ⟨b, o + j * 10 + 8, none⟩ = some (.string e.name) ∧ w.cell? ⟨b, o + j * 10 + 9, none⟩ = some (.slice A1 e.l.length c1) ∧ e.l.length ≤ c1 ∧ exR.row w F A1 e.l := by
  obtain ⟨b, o, cs, hA, hF, hb, hr, hc⟩ := Rp.row_at h hx
  obtain ⟨c0, c1, rfl, h0, h1⟩ := hr
  have h0' : c0 = x.cs := h0
  subst h0'
  obtain ⟨A1, n1, rfl, hle, hrow⟩ := ExRep.parts h1
  exact ⟨b, o, A1, n1, hA, hF, hb, hc 0 _ rfl, hc 1 _ rfl, hc 2 _ rfl, hc 3 _ rfl, hc 4 _ rfl, hc 5 _ rfl, hc 6 _ rfl, hc 7 _ rfl, hc 8 _ rfl, hc 9 _ rfl, hle, hrow⟩
theorem SchR.cells {w : World} {cb : Nat} {rs : List (Spec × Ex)} {gs : List Grp} (h : SchR w cb rs gs) : ∃ AL cL AG cG, w.cell? ⟨cb, 0, none⟩ = some (.slice AL rs.length cL) ∧ w.cell? ⟨cb, 1, none⟩ = some (.slice AG gs.length cG) ∧ cb < w.heap.size ∧ rs.length ≤ cL ∧ ruleR.row w (fun _ => True) AL rs ∧ grpR.row w (fun _ => True) AG gs := by
  obtain ⟨AL, cL, AG, cG, hb, hl, hr, hg⟩ := h
  exact ⟨AL, cL, AG, cG, by unfold World.cell?; simp only [hb]; rfl, by unfold World.cell?; simp only [hb]; rfl, (Array.getElem?_eq_some_iff.1 hb).1, hl, hr, hg⟩
abbrev zeroSpec : Spec := ⟨⟨#[]⟩, ⟨#[]⟩, false, 0, 0, 0, false⟩
set_option maxRecDepth 100000 in
set_option maxHeartbeats 4000000 in
theorem Spec_in {w : World} {cb : Nat} {rs : List (Spec × Ex)} {gs : List Grp} (h : SchR w cb rs gs) {k : Nat} {x : Spec} {e : Ex} (hx : rs[k]? = some (x, e)) (hk : 1 ≤ k) (hl : rs.length ≤ 1000) : Calls Tryd.prog 48 #[.pointer (some ⟨cb, 0, none⟩), .int .i64 k] w fun r w' => r = .returned (.tuple #[x.val, .bool true]) ∧ Pure w w' := by
  have hlt : k < rs.length := (List.getElem?_eq_some_iff.1 hx).1
  have hne : rs ≠ [] := by rintro rfl; simp at hlt
  have HNO := As.mk (none_calls (h.pure (Upd.alloc1 (fun _ => False) w (.cells #[.string ⟨#[]⟩, .string ⟨#[]⟩, .bool false, .int .i64 0, .int .i64 0, .int .i64 0, .bool false] 54))) hne)
  obtain ⟨AL, cL, AG, cG, c0, _, hcb, hle, hrow, _⟩ := h.cells
  obtain ⟨b, o, A1, c1, rfl, _, hbl, d0, d1, d2, d3, d4, d5, d6, _⟩ := rule_at hrow hx
  have t1 : decide ((k : Int) < 1) = false := by simp; omega
  have t2 : decide ((k : Int) ≥ (rs.length : Int)) = false := by simp; omega
  have t3 : decide ((rs.length : Int) ≤ (k : Int)) = false := by simp; omega
  have t4 : decide (rs.length ≤ k) = false := by simp; omega
  have t5 : (k == 0) = false := by simp; omega
  clear hrow h hx
  go_enter Tryd.func48, Tryd.ntmps48
  go_wp2_with (go_at_call 30; refine HNO.out.mono ?_; rintro r w1 ⟨rfl, rfl⟩)
  exact bodyPost_ret (v := .tuple #[x.val, .bool true]) (by simp [results, Tryd.results48, go_sem, Spec.val]) rfl ⟨rfl, Upd.alloc1 _ _ _⟩
set_option maxRecDepth 100000 in
set_option maxHeartbeats 4000000 in
theorem Spec_low {w : World} {cb : Nat} {rs : List (Spec × Ex)} {gs : List Grp} (h : SchR w cb rs gs) (hne : rs ≠ []) (hl : rs.length ≤ 1000) {t : Int} (ht : t < 1) : Calls Tryd.prog 48 #[.pointer (some ⟨cb, 0, none⟩), .int .i64 t] w fun r w' => r = .returned (.tuple #[zeroSpec.val, .bool false]) ∧ Pure w w' := by
  have HNO := As.mk (none_calls (h.pure (Upd.alloc1 (fun _ => False) w (.cells #[.string ⟨#[]⟩, .string ⟨#[]⟩, .bool false, .int .i64 0, .int .i64 0, .int .i64 0, .bool false] 54))) hne)
  obtain ⟨AL, cL, AG, cG, c0, _, hcb, hle, _, _⟩ := h.cells
  have t1 : decide (t < 1) = true := by simpa using ht
  clear h
  go_enter Tryd.func48, Tryd.ntmps48
  go_wp2_with (go_at_call 30; refine HNO.out.mono ?_; rintro r w1 ⟨rfl, rfl⟩)
  exact bodyPost_ret (v := .tuple #[zeroSpec.val, .bool false]) (by simp [results, Tryd.results48, go_sem, Spec.val]) rfl ⟨rfl, Upd.alloc1 _ _ _⟩
set_option maxRecDepth 100000 in
set_option maxHeartbeats 4000000 in
theorem Spec_high {w : World} {cb : Nat} {rs : List (Spec × Ex)} {gs : List Grp} (h : SchR w cb rs gs) (hne : rs ≠ []) (hl : rs.length ≤ 1000) {t : Int} (ht : 1 ≤ t) (hh : (rs.length : Int) ≤ t) : Calls Tryd.prog 48 #[.pointer (some ⟨cb, 0, none⟩), .int .i64 t] w fun r w' => r = .returned (.tuple #[zeroSpec.val, .bool false]) ∧ Pure w w' := by
  have HNO := As.mk (none_calls (h.pure (Upd.alloc1 (fun _ => False) w (.cells #[.string ⟨#[]⟩, .string ⟨#[]⟩, .bool false, .int .i64 0, .int .i64 0, .int .i64 0, .bool false] 54))) hne)
  obtain ⟨AL, cL, AG, cG, c0, _, hcb, hle, _, _⟩ := h.cells
  have t1 : decide (t < 1) = false := by simp; omega
  have t2 : decide (t ≥ (rs.length : Int)) = true := by simpa using hh
  have t3 : decide ((rs.length : Int) ≤ t) = true := by simpa using hh
  clear h
  go_enter Tryd.func48, Tryd.ntmps48
  go_wp2_with (go_at_call 30; refine HNO.out.mono ?_; rintro r w1 ⟨rfl, rfl⟩)
  exact bodyPost_ret (v := .tuple #[zeroSpec.val, .bool false]) (by simp [results, Tryd.results48, go_sem, Spec.val]) rfl ⟨rfl, Upd.alloc1 _ _ _⟩
end Go.Proofs.YtfapglhdakhbeaaDoor
