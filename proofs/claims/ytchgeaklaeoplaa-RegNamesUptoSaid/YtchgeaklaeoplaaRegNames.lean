/- emenderlaw06.RegNames. -/
import Derived.Test.YtchgeaklaeoplaaLaw6
import Derived.Test.YtchgeaklaeoplaaLang
namespace Go.Proofs.Ytchgeaklaeoplaa
open Go.RowKit
set_option linter.unusedVariables false
set_option linter.unusedSimpArgs false

abbrev eA : Ex := .mk 1 nameA []
abbrev gA (l : List Int) : List Grp := [⟨nameA, l⟩]
theorem typesOf_A (l : List Int) : typesOf (gA l) nameA = l := by simp [typesOf]
theorem gluA (l : List Int) : glu (gA l) eA ([], []) = (([l], [[]]), ⟨false, [0], [0]⟩) := by
  rw [glu]
  simp [typesOf_A]
theorem pathA {l : List Int} {w : List Int} {z : Int} (h : Path [l] [[]] ⟨false, [0], [0]⟩ w z) : (w = [] ∧ z = -1) ∨ ∃ t, w = [t] ∧ t ∈ l ∧ z = 0 := by
  cases h with
  | nil => exact .inl ⟨rfl, rfl⟩
  | snoc w x y t h1 h2 h3 =>
    have hx : x = -1 := by
      by_cases hx : x = -1
      · exact hx
      · unfold nextsOf at h2
        rw [if_neg hx] at h2
        simp [List.getD] at h2
        cases hn : ([[]] : List (List Int))[x.toNat]? with
        | none => simp [hn] at h2
        | some z =>
          have := List.mem_of_getElem? hn
          simp at this
          subst this
          simp [hn] at h2
    subst hx
    have hy : z = 0 := by simpa [nextsOf] using h2
    subst hy
    have ht : t ∈ l := by simpa [List.getD] using h3
    right
    refine ⟨t, ?_, ht, rfl⟩
    generalize hk : (-1 : Int) = k at h1
    cases h1 with
    | nil => rfl
    | snoc w x y t h1 h2 h3 =>
      subst hk
      exfalso
      unfold nextsOf at h2
      split at h2
      · simp at h2
      · simp [List.getD] at h2
        cases hn : ([[]] : List (List Int))[x.toNat]? with
        | none => simp [hn] at h2
        | some z =>
          have := List.mem_of_getElem? hn
          simp at this
          subst this
          simp [hn] at h2
theorem acc_bad {e : Ex} {g : List Grp} {w : List Int} (h : regCheck e g ≠ 0) : regAccepts e g w = false := by
  unfold regAccepts
  simp [h]
theorem accA1 {l : List Int} {t : Int} (h : regCheck eA (gA l) = 0) : regAccepts eA (gA l) [t] = decide (t ∈ l) := by
  rw [Bool.eq_iff_iff, accepts_iff, decide_eq_true_eq]
  unfold AccE mcT mcF mcP
  rw [gluA]
  constructor
  · rintro ⟨_, x, hp, _⟩
    rcases pathA hp with ⟨h, _⟩ | ⟨u, h1, h2, _⟩
    · cases h
    · simp at h1; subst h1; exact h2
  · intro ht
    exact ⟨h, 0, .snoc [] (-1) 0 t .nil (by simp [nextsOf]) (by simpa [List.getD] using ht), by simp [endS]⟩
theorem accA0 {l : List Int} : regAccepts eA (gA l) [] = false := by
  rw [← Bool.not_eq_true, accepts_iff]
  unfold AccE mcT mcF mcP
  rw [gluA]
  rintro ⟨_, x, hp, he⟩
  rcases pathA hp with ⟨_, rfl⟩ | ⟨u, h1, _⟩
  · simp [endS] at he
  · cases h1
theorem accA2 {l : List Int} {t : Int} : regAccepts eA (gA l) [t, t] = false := by
  rw [← Bool.not_eq_true, accepts_iff]
  unfold AccE mcT mcF mcP
  rw [gluA]
  rintro ⟨_, x, hp, he⟩
  rcases pathA hp with ⟨h, _⟩ | ⟨u, h1, _⟩
  · cases h
  · cases h1

set_option maxRecDepth 100000 in
set_option maxHeartbeats 4000000 in
theorem RegNames_walk {w : World} {A : Option Addr} {c : Nat} {l : List Int} {t : Int} (hr : intR.row w (fun k => k < w.heap.size) A l) (hb : l.length ≤ 1048576) (hlc : l.length ≤ c) :
    Calls Try.prog 5 #[.slice A l.length c, .int .i64 t] w fun r w' => r = .returned (.bool true) ∧ Pure w w' := by
  have hp1 : Pure w ((w.alloc (.cells #[.int .i64 1, .string nameA, .slice none 0 0] 24)).alloc (.cells #[.string nameA, .slice A l.length c] 34)) := (Upd.alloc1 _ _ _).alloc _
  have hm : MadeC ((w.alloc (.cells #[.int .i64 1, .string nameA, .slice none 0 0] 24)).alloc (.cells #[.string nameA, .slice A l.length c] 34)) none (some ⟨w.heap.size + 1, 0, none⟩) eA (gA l) := by
    refine ⟨.inl rfl, ?_, of_decide_eq_true (by kernel_rfl), by simp, by simpa using hb⟩
    have hb1 := heap_alloc_new (w.alloc (.cells #[.int .i64 1, .string nameA, .slice none 0 0] 24)) (.cells #[.string nameA, .slice A l.length c] 34)
    rw [show (w.alloc (.cells #[.int .i64 1, .string nameA, .slice none 0 0] 24)).heap.size = w.heap.size + 1 by simp] at hb1
    exact Rp.row_of_block hb1 (by simp) (Reps.single (R := grpR.rep _ _) (size := grpR.sz) ⟨A, c, rfl, hlc, Rp.row_fp (Rp.row_pure hr hp1) (fun k hk => by simp; omega)⟩ rfl)
  have HM := As.mk hm
  have HACC := As.mk (fun (W : World) (hu : Pure _ W) (word : List Int) (F : Nat → Prop) (Aw : Option Addr) (cw : Nat) (hw : intR.row W F Aw word) (hl : word.length ≤ 1048576 * 4) => accepts_calls (c := 0) (d := 1) (cw := cw) (hm.pure hu) hw hl)
  have HCK := As.mk (regCheck_calls (c := 0) (d := 1) hm.hr hm.hg hm.wt hm.gl hm.gt)
  have HP1 := As.mk hp1
  have HR := As.mk hr
  have hz1 : ((w.alloc (.cells #[.int .i64 1, .string nameA, .slice none 0 0] 24)).alloc (.cells #[.string nameA, .slice A l.length c] 34)).heap.size = w.heap.size + 2 := by simp
  have hbE : ((w.alloc (.cells #[.int .i64 1, .string nameA, .slice none 0 0] 24)).alloc (.cells #[.string nameA, .slice A l.length c] 34)).heap[w.heap.size]? = some (.cells #[.int .i64 1, .string nameA, .slice none 0 0] 24 (0, 0)) := (Below.heap_alloc _ _ _ (by simp)).trans (heap_alloc_new w _)
  have HBE := As.mk hbE
  have HZ := As.mk hz1
  clear hm hp1 hr hz1 hbE
  by_cases hc : regCheck eA (gA l) = 0
  · have HA1 := As.mk (accA1 (t := t) hc)
    have HA0 := As.mk (accA0 (l := l))
    have HA2 := As.mk (accA2 (l := l) (t := t))
    rw [hc] at HCK
    clear hc
    go_enter Try.func5, Try.ntmps5
    go_wp2_with (go_at_call 8; refine HCK.out.mono ?_; rintro e w1 ⟨rfl, hu⟩; have HU := As.mk hu; clear hu)
    go_loopg [7, 8] l.length (fun g b i wr => ∃ k : Nat, k + g = l.length ∧ i = .int .i64 k ∧ b = .bool (decide (t ∈ l.take k)) ∧ As (wr = w1))
    case atStart => exact ⟨0, by omega, rfl, by simp, ⟨rfl⟩⟩
    case round =>
      obtain ⟨k, hk, rfl, rfl, HW⟩ := hrel
      obtain rfl := HW.out
      by_cases hlt : k < l.length
      · obtain ⟨x, hx⟩ : ∃ x, l[k]? = some x := ⟨_, List.getElem?_eq_getElem hlt⟩
        obtain ⟨g1, rfl⟩ : ∃ m, gk = m + 1 := ⟨gk - 1, by omega⟩
        obtain ⟨b, o, rfl, hFb, hbb, d0⟩ := int_at (Rp.row_pure HR.out (HP1.out.trans HU.out (fun _ _ h => h))) hx
        have hin : decide (t ∈ l.take (k + 1)) = (decide (t ∈ l.take k) || decide (x = t)) := by
          rw [List.take_add_one, hx]
          rw [Bool.eq_iff_iff]
          simp only [Bool.or_eq_true, decide_eq_true_eq, List.mem_append, List.mem_singleton, Option.toList]
          exact ⟨fun h => h.imp id Eq.symm, fun h => h.imp id Eq.symm⟩
        have HIN := As.mk hin
        have HK := As.mk hk
        clear hin hk hx
        cases hq : decide (t ∈ l.take k)
        · by_cases hxt : x = t
          · subst hxt
            rw [hq] at HIN
            clear hq
            go_wp2
            go_roundg g1
            case measure => omega
            case rel => exact ⟨k + 1, by have := HK.out; omega, by go_num, by rw [HIN.out]; simp, ⟨rfl⟩⟩
          · have hne : (x == t) = false := by simpa using hxt
            rw [hq] at HIN
            clear hq
            go_wp2
            go_roundg g1
            case measure => omega
            case rel => exact ⟨k + 1, by have := HK.out; omega, by go_num, by rw [HIN.out]; simp [hxt], ⟨rfl⟩⟩
        · rw [hq] at HIN
          clear hq
          go_wp2
          go_roundg g1
          case measure => omega
          case rel => exact ⟨k + 1, by have := HK.out; omega, by go_num, by rw [HIN.out]; simp, ⟨rfl⟩⟩
      · obtain rfl : k = l.length := by omega
        rw [List.take_length]
        obtain ⟨⟨x0, x1, x2⟩, _, _, _, _⟩ := cells3 ((HU.out.block _ (by rw [HZ.out]; omega) (fun h => h)).trans HBE.out)
        have hself : (decide (t ∈ l) == decide (t ∈ l)) = true := by simp
        generalize decide (t ∈ l) = q at *
        go_wp2_with (go_at_call 10; refine (HACC.out _ (HU.out.alloc _) [t] (fun _ => True) _ 1 (row_ints (l := [t]) (heap_alloc_new _ _) trivial) (by simp)).mono ?_; rintro e w2 ⟨rfl, hu2⟩; rw [HA1.out]; have HU2 := As.mk (Upd.trans (HU.out.alloc _) hu2 (fun _ _ h => h)); clear hu2; apply As.out)
        refine ⟨?_⟩
        obtain ⟨⟨y0, y1, y2⟩, _, _, _, _⟩ := cells3 ((HU2.out.block _ (by rw [HZ.out]; omega) (fun h => h)).trans HBE.out)
        go_wp2_with (go_at_call 10; refine (HACC.out _ HU2.out [] (fun _ => True) none 0 (.inl rfl) (by simp)).mono ?_; rintro e w3 ⟨rfl, hu3⟩; rw [HA0.out]; have HU3 := As.mk (Upd.trans HU2.out hu3 (fun _ _ h => h)); clear hu3; apply As.out)
        refine ⟨?_⟩
        obtain ⟨⟨z0, z1, z2⟩, _, _, _, _⟩ := cells3 ((HU3.out.block _ (by rw [HZ.out]; omega) (fun h => h)).trans HBE.out)
        go_wp2_with (first | (go_at_call 10; refine (HACC.out _ (HU3.out.alloc _) [t, t] (fun _ => True) _ 2 (row_ints (l := [t, t]) (heap_alloc_new _ _) trivial) (by simp)).mono ?_; rintro e w4 ⟨rfl, hu4⟩; rw [HA2.out]; have HU4 := As.mk (Upd.trans (HU3.out.alloc _) hu4 (fun _ _ h => h)); clear hu4) | (go_at_call 9; refine awake_calls.mono ?_; rintro e w5 ⟨rfl, hu5⟩))
        go_ret
        exact ⟨rfl, (HP1.out.trans HU4.out (fun _ _ h => h)).trans hu5 (fun _ _ h => h)⟩
  · have e0 : (regCheck eA (gA l) != 0) = true := by simp [hc]
    have HA := As.mk (acc_bad (w := [t]) hc)
    generalize regCheck eA (gA l) = v at *
    clear hc
    go_enter Try.func5, Try.ntmps5
    go_wp2_with (first | (go_at_call 8; refine HCK.out.mono ?_; rintro e w1 ⟨rfl, hu⟩; have HU := As.mk hu; clear hu; apply As.out))
    refine ⟨?_⟩
    obtain ⟨⟨x0, x1, x2⟩, _, _, _, _⟩ := cells3 ((HU.out.block _ (by rw [HZ.out]; omega) (fun h => h)).trans HBE.out)
    go_wp2_with (first | (go_at_call 10; refine (HACC.out _ (HU.out.alloc _) [t] (fun _ => True) _ 1 (row_ints (l := [t]) (heap_alloc_new _ _) trivial) (by simp)).mono ?_; rintro e w2 ⟨rfl, hu2⟩; rw [HA.out]; have HU2 := As.mk (Upd.trans (HU.out.alloc _) hu2 (fun _ _ h => h)); clear hu2) | (go_at_call 9; refine awake_calls.mono ?_; rintro e w3 ⟨rfl, hu3⟩))
    go_ret
    exact ⟨rfl, (HP1.out.trans HU2.out (fun _ _ h => h)).trans hu3 (fun _ _ h => h)⟩
end Go.Proofs.Ytchgeaklaeoplaa
