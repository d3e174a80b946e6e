/- The statements' own 'alike': are two slices of tokens the same? -/
import Derived.Test.YtfapglhdakhbeaaGreatDoorFlatC
import Derived.Laws.StructEq
namespace Go.Proofs.YtfapglhdakhbeaaGreatDoor
open Go.RowKit
set_option linter.unusedVariables false
set_option linter.unusedSimpArgs false

theorem tok_ext {x y : Tok} (h1 : x.k = y.k) (h2 : x.t = y.t) (h3 : x.n = y.n) (h4 : x.m = y.m) : x = y := by
  cases x; cases y; simp_all
theorem tok_diff {x y : Tok} (h : x ≠ y) : x.k ≠ y.k ∨ (x.k = y.k ∧ x.t ≠ y.t) ∨ (x.k = y.k ∧ x.t = y.t ∧ x.n ≠ y.n) ∨ (x.k = y.k ∧ x.t = y.t ∧ x.n = y.n ∧ x.m ≠ y.m) := by
  by_cases h1 : x.k = y.k
  · by_cases h2 : x.t = y.t
    · by_cases h3 : x.n = y.n
      · by_cases h4 : x.m = y.m
        · exact absurd (tok_ext h1 h2 h3 h4) h
        · exact .inr (.inr (.inr ⟨h1, h2, h3, h4⟩))
      · exact .inr (.inr (.inl ⟨h1, h2, h3⟩))
    · exact .inr (.inl ⟨h1, h2⟩)
  · exact .inl h1
theorem lists_diff {l l' : List Tok} {k : Nat} {x y : Tok} (hx : l[k]? = some x) (hy : l'[k]? = some y) (h : x ≠ y) : decide (l = l') = false := by
  rw [decide_eq_false_iff_not]
  rintro rfl
  rw [hx] at hy
  exact h (Option.some.inj hy)

set_option maxRecDepth 100000 in
set_option maxHeartbeats 4000000 in
theorem Alike_calls {F G : Nat → Prop} {A B : Option Addr} {c c' : Nat} {l l' : List Tok} {w : World} (hr : tokR.row w F A l) (hr' : tokR.row w G B l') (hb : l.length ≤ 1048576 * 4) (hb' : l'.length ≤ 1048576 * 4) :
    Calls Tryz.prog 146 #[.slice A l.length c, .slice B l'.length c'] w fun e w' => e = .returned (.bool (decide (l = l'))) ∧ Pure w w' := by
  by_cases hll : l.length = l'.length
  · have HR := As.mk hr
    have HR' := As.mk hr'
    have HL := As.mk hll
    rw [hll]
    clear hr hr' hll
    go_enter Tryz.func146, Tryz.ntmps146
    go_wp2
    go_loopg [5] l'.length (fun g i wr => ∃ k : Nat, k + g = l'.length ∧ i = .int .i64 k ∧ As (l.take k = l'.take k) ∧ As (Pure w wr))
    case atStart => exact ⟨0, by omega, rfl, ⟨by simp⟩, ⟨Upd.refl _ _⟩⟩
    case round =>
      obtain ⟨k, hk, rfl, HT, HP⟩ := hrel
      by_cases hlt : k < l'.length
      · obtain ⟨g1, rfl⟩ : ∃ m, gk = m + 1 := ⟨gk - 1, by omega⟩
        obtain ⟨x, hx⟩ : ∃ x, l[k]? = some x := ⟨_, List.getElem?_eq_getElem (by have := HL.out; omega)⟩
        obtain ⟨y, hy⟩ : ∃ y, l'[k]? = some y := ⟨_, List.getElem?_eq_getElem hlt⟩
        obtain ⟨b, o, rfl, hF, hbl, c0, c1, c2, c3⟩ := tok_at (Rp.row_pure HR.out HP.out) hx
        obtain ⟨b', o', rfl, hG, hbl', d0, d1, d2, d3⟩ := tok_at (Rp.row_pure HR'.out HP.out) hy
        have HX := As.mk hx
        have HY := As.mk hy
        have HK := As.mk hk
        clear hx hy hk
        by_cases hxy : x = y
        · subst hxy
          go_wp2
          go_region
          all_goals go_wp2
          all_goals go_roundg g1
          all_goals first
            | (case measure => omega)
            | (case rel => exact ⟨k + 1, by have := HK.out; omega, by go_num, ⟨by rw [List.take_add_one, List.take_add_one, HT.out, HX.out, HY.out]⟩, ⟨HP.out.drew⟩⟩)
        · have HN := As.mk hxy
          rcases tok_diff hxy with h | ⟨h1, h⟩ | ⟨h1, h2, h⟩ | ⟨h1, h2, h3, h⟩
          all_goals
            clear hxy
            go_wp2
            go_region
            all_goals go_wp2
            all_goals go_ret
            all_goals exact ⟨ret_bool (lists_diff HX.out HY.out HN.out).symm, HP.out.drew⟩
      · have hkl : k = l'.length := by omega
        subst hkl
        go_wp2
        go_ret
        refine ⟨ret_bool ?_, HP.out⟩
        have h1 := HT.out
        rw [List.take_length, ← HL.out, List.take_length] at h1
        simp [h1]
  · have h1 : ¬ ((l.length : Int) = (l'.length : Int)) := by omega
    have HN := As.mk hll
    go_enter Tryz.func146, Tryz.ntmps146
    go_wp2
    go_ret
    exact ⟨ret_bool (by symm; rw [decide_eq_false_iff_not]; rintro rfl; exact HN.out rfl), Upd.refl _ _⟩

/-- Two slices of the same tokens. -/
theorem Alike_same {F G : Nat → Prop} {A B : Option Addr} {c c' : Nat} {l : List Tok} {w : World} (hr : tokR.row w F A l) (hr' : tokR.row w G B l) (hb : l.length ≤ 1048576 * 4) :
    Calls Tryz.prog 146 #[.slice A l.length c, .slice B l.length c'] w fun e w' => e = .returned (.bool true) ∧ Pure w w' := by
  refine (Alike_calls hr hr' hb hb).mono ?_
  rintro e w' ⟨rfl, hu⟩
  exact ⟨ret_bool (by simp), hu⟩
end Go.Proofs.YtfapglhdakhbeaaGreatDoor
