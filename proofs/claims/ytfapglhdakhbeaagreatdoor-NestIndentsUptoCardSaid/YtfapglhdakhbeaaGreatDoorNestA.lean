/- emenderlaw27.alike. nest.Outdent, nest.Indent at a document; the statements' awake, twin. What Outdent and Indent tell, and the step done. -/
import Derived.Test.YtfapglhdakhbeaaGreatDoorAlikeE
import Derived.Test.YtfapglhdakhbeaaGreatDoorNestI
import Derived.Test.YtfapglhdakhbeaaGreatDoorMayW
import Derived.Test.YtfapglhdakhbeaaGreatDoorMayP
import Derived.Test.YtfapglhdakhbeaaGreatDoorFlat
import Derived.Laws.StructEq
namespace Go.Proofs.YtfapglhdakhbeaaGreatDoor
open Go.RowKit
set_option linter.unusedVariables false
set_option linter.unusedSimpArgs false

set_option maxRecDepth 100000 in
set_option maxHeartbeats 4000000 in
theorem Alike27_calls {F G : Nat → Prop} {A B : Option Addr} {c c' : Nat} {l l' : List Tok} {w : World} (hr : tokR.row w F A l) (hr' : tokR.row w G B l') (hb : l.length ≤ 1048576 * 4) (hb' : l'.length ≤ 1048576 * 4) :
    Calls Tryz.prog 64 #[.slice A l.length c, .slice B l'.length c'] w fun e w' => e = .returned (.bool (decide (l = l'))) ∧ Pure w w' := by
  by_cases hll : l.length = l'.length
  · have HR := As.mk hr
    have HR' := As.mk hr'
    have HL := As.mk hll
    rw [hll]
    clear hr hr' hll
    go_enter Tryz.func64, Tryz.ntmps64
    go_wp2
    go_loopg [5] l'.length (fun g i wr => ∃ k : Nat, k + g = l'.length ∧ i = .int .i64 k ∧ As (l.take k = l'.take k) ∧ As (Pure w wr))
    case atStart => exact ⟨0, by omega, rfl, ⟨by simp⟩, ⟨Upd.refl _ _⟩⟩
    case round =>
      obtain ⟨k, hk, rfl, HT, HP⟩ := hrel
      by_cases hlt : k < l'.length
      · obtain ⟨g1, rfl⟩ : ∃ m, gk = m + 1 := ⟨gk - 1, by omega⟩
        obtain ⟨x, hx⟩ : ∃ x, l[k]? = some x := ⟨_, List.getElem?_eq_getElem (by have := HL.out; omega)⟩
        obtain ⟨y, hy⟩ : ∃ y, l'[k]? = some y := ⟨_, List.getElem?_eq_getElem hlt⟩
        obtain ⟨b, o, rfl, hF, hbl, c0, c1, c2, c3⟩ := tok_at (Rp.row_pure HR.out HP.out) hx
        obtain ⟨b', o', rfl, hG, hbl', d0, d1, d2, d3⟩ := tok_at (Rp.row_pure HR'.out HP.out) hy
        have HX := As.mk hx
        have HY := As.mk hy
        have HK := As.mk hk
        clear hx hy hk
        by_cases hxy : x = y
        · subst hxy
          go_wp2
          go_region
          all_goals go_wp2
          all_goals go_roundg g1
          all_goals first
            | (case measure => omega)
            | (case rel => exact ⟨k + 1, by have := HK.out; omega, by go_num, ⟨by rw [List.take_add_one, List.take_add_one, HT.out, HX.out, HY.out]⟩, ⟨HP.out.drew⟩⟩)
        · have HN := As.mk hxy
          rcases tok_diff hxy with h | ⟨h1, h⟩ | ⟨h1, h2, h⟩ | ⟨h1, h2, h3, h⟩
          all_goals
            clear hxy
            go_wp2
            go_region
            all_goals go_wp2
            all_goals go_ret
            all_goals exact ⟨ret_bool (lists_diff HX.out HY.out HN.out).symm, HP.out.drew⟩
      · have hkl : k = l'.length := by omega
        subst hkl
        go_wp2
        go_ret
        refine ⟨ret_bool ?_, HP.out⟩
        have h1 := HT.out
        rw [List.take_length, ← HL.out, List.take_length] at h1
        simp [h1]
  · have h1 : ¬ ((l.length : Int) = (l'.length : Int)) := by omega
    have HN := As.mk hll
    go_enter Tryz.func64, Tryz.ntmps64
    go_wp2
    go_ret
    exact ⟨ret_bool (by symm; rw [decide_eq_false_iff_not]; rintro rfl; exact HN.out rfl), Upd.refl _ _⟩

/-- Two slices of the same tokens. -/
theorem Alike27_same {F G : Nat → Prop} {A B : Option Addr} {c c' : Nat} {l : List Tok} {w : World} (hr : tokR.row w F A l) (hr' : tokR.row w G B l) (hb : l.length ≤ 1048576 * 4) :
    Calls Tryz.prog 64 #[.slice A l.length c, .slice B l.length c'] w fun e w' => e = .returned (.bool true) ∧ Pure w w' := by
  refine (Alike27_calls hr hr' hb hb).mono ?_
  rintro e w' ⟨rfl, hu⟩
  exact ⟨ret_bool (by simp), hu⟩
end Go.Proofs.YtfapglhdakhbeaaGreatDoor
namespace Go.Proofs.YtfapglhdakhbeaaGreatDoor
open Go.RowKit
set_option linter.unusedVariables false
set_option linter.unusedSimpArgs false

theorem ntell_doc {w : World} {F G : Nat → Prop} {cb : Nat} {A T : Option Addr} {c ct : Nat} {l sl : List Tok} {a b g h ins : Int} (hS : SchR w cb houseRules houseGroups) (hne : l ≠ []) (hr : tokR.row w F A l) (hlc : l.length ≤ c) (hb : l.length ≤ 1048576 * 4) (hsl : sl ≠ []) (hs : tokR.row w G T sl) (hsb : sl.length ≤ 2048) :
    Calls Tryz.prog 113 #[deskV cb A l.length c, (arnd a b g h ins sl).bare, .slice T sl.length ct] w (NTold (arnd a b g h ins sl) (remapErr l (arnd a b g h ins sl)) w) :=
  ntell_calls (s := arnd a b g h ins sl) (x := stepDo l (arnd a b g h ins sl)) hsl hs (by show sl.length ≤ _; omega) (fun W B cs hW hrow hcs => Do_calls (hS.pure hW) (fun V hV => Apply_calls (s := arnd a b g h ins sl) (Rp.row_pure (Rp.row_pure hr hW) hV) (Rp.row_pure hrow hV) hb (by show sl.length ≤ _; omega) (fun h0 h1 h2 => doc_arnd hne (Rp.row_pure (Rp.row_pure hr hW) hV) hlc (Rp.row_pure hrow hV) hcs (fun e => absurd e hsl) h0 h1 h2)))
instance (l : List Tok) (x : Nat) : Decidable (outOk l x) := by unfold outOk; infer_instance
def outSt (l : List Tok) (p : Int) : StepD := match itemsL l p with
  | [] => repl 0 0 []
  | x :: _ => nOut l x.toNat (aroundL l x).toNat
def outErr (l : List Tok) (p : Int) : Int := if placesErr l p p ≠ 0 then placesErr l p p else match itemsL l p with
  | [] => 6
  | x :: _ => if outOk l x.toNat then remapErr l (nOut l x.toNat (aroundL l x).toNat) else 6
theorem Outdent_calls {w : World} {F : Nat → Prop} {cb : Nat} {A : Option Addr} {c : Nat} {l : List Tok} {p : Int} (h : SchR w cb houseRules houseGroups) (hr : tokR.row w F A l) (hlc : l.length ≤ c) (hb : l.length ≤ 2048) :
    Calls Tryz.prog 55 #[.pointer (some ⟨cb, 0, none⟩), .slice A l.length c, .int .i64 p] w (NTold (outSt l p) (outErr l p) w) := by
  have hP := fun W (hu : Pure w W) => nat_calls (c := c) (p := p) (h.pure hu) (Rp.row_pure hr hu) (by omega)
  have hI := fun W (hu : Pure w W) => item_calls (cb := cb) (c := c) (p := p) (Rp.row_pure hr hu) hb hlc
  have hA := fun (q : Int) W (hu : Pure w W) => around_calls (c := c) (at' := q) (Rp.row_pure hr hu) (by omega) hlc
  have hO := fun (q : Nat) (y : Tok) (hy : l[q]? = some y) (h1 : y.k = 1) W (hu : Pure w W) => Partner_open (c := c) (Rp.row_pure hr hu) (by omega) hlc hy h1
  by_cases hp : placesErr l p p = 0
  · have hl := (places_zero.1 hp).1
    have hne := house_ne hl
    rw [hp] at hP
    cases hs : itemsL l p with
    | nil =>
      have he : outErr l p = 6 := by unfold outErr; rw [if_neg (by omega), hs]
      rw [he]
      have hv : itemV l p = (0, 0, 0, false) := by unfold itemV; rw [hs]
      rw [hv] at hI
      simp only at hI
      exact Outdent_no (out := 0) (pl := 0) (po := 0) hr hb ⟨by omega, by omega⟩ hP hI (by simp) (by simp) (by simp) (.inr (.inl ⟨rfl, rfl, rfl⟩))
    | cons x r =>
      obtain ⟨i, o, rfl, hi, ho1, ho6, _⟩ := items_open (l := l) (l.length + 1) p x (by
        have : itemsL l p = itemsGo l (l.length + 1) (aroundL l p) := rfl
        rw [← this, hs]; simp)
      have hil := (List.getElem?_eq_some_iff.1 hi).1
      have hv : itemV l p = ((i : Int), partL l i + 1, aroundL l i, decide (0 ≤ aroundL l i)) := by unfold itemV; rw [hs]; rfl
      rw [hv] at hI
      simp only at hI
      have hbd := part_bound (i := i) hb
      have hS : outSt l p = nOut l i (aroundL l i).toNat := by unfold outSt; rw [hs]; rfl
      have hE : outErr l p = if outOk l i then remapErr l (nOut l i (aroundL l i).toNat) else 6 := by unfold outErr; rw [if_neg (by omega), hs]; rfl
      rw [hS, hE]
      by_cases ha : 0 ≤ aroundL l i
      · obtain ⟨j, y, hj, hy, hy1, hji⟩ := around_open (l := l) (p := (i : Int)) (by omega)
        rw [hj] at hI
        have hd : decide (0 ≤ (j : Int)) = true := by simp
        rw [hd] at hI
        rw [hj]
        by_cases hq : 0 ≤ aroundL l (j : Int)
        · obtain ⟨q, z, hqe, hz, hz1, hqj⟩ := around_open (l := l) (p := (j : Int)) (by omega)
          have hA2 := hA (j : Int)
          rw [hqe] at hA2
          have hz6 : tyAt l (q : Int) = z.t := by simp [tyAt, hz]
          by_cases hok : outOk l i
          · obtain ⟨_, _, a2, a3, a4⟩ := hok
            have hok : outOk l i := ⟨ha, by rw [hj]; exact hq, a2, a3, a4⟩
            rw [hj, hqe] at a2 a4
            rw [hj, Int.toNat_natCast] at a3
            rw [Int.toNat_natCast] at a4
            rw [if_pos hok, Int.toNat_natCast]
            have hen : 0 ≤ partL l i + 1 ∧ partL l i + 1 ≤ 3000 := by omega
            have g1 := hO j y hy hy1
            rw [a3] at g1
            have g2 := hO q z hz hz1
            rw [a4, show partL l i + 2 = partL l i + 1 + 1 by omega] at g2
            have jl := (List.getElem?_eq_some_iff.1 hy).1
            by_cases hx : i = j + 1
            · have hn : nOut l i j = arnd j (partL l i + 1 + 2) i (partL l i + 1) 1 [shutT] := by
                unfold nOut; rw [if_pos hx, show partL l i + 3 = partL l i + 1 + 2 by omega]
              rw [hn]
              exact Outdent_a (pl := 0) (po := 0) hr hb hen hil hP hI hA2 g1 g2 jl hz (by omega) hx (fun W T ct hW hrow => ntell_doc (h.pure hW) hne (Rp.row_pure hr hW) hlc (by omega) (by simp) hrow (by simp))
            · have hn : nOut l i j = arnd i (partL l i + 1 + 2) i (partL l i + 1) 2 [shutT, shutT] := by
                unfold nOut; rw [if_neg hx, show partL l i + 3 = partL l i + 1 + 2 by omega]
              rw [hn]
              exact Outdent_b (pl := 0) (po := 0) hr hb hen hil hP hI hA2 g1 g2 jl hz (by omega) hx (fun W T ct hW hrow => ntell_doc (h.pure hW) hne (Rp.row_pure hr hW) hlc (by omega) (by simp) hrow (by simp))
          · rw [if_neg hok]
            refine Outdent_no hr hb ⟨by omega, by omega⟩ hP hI (fun _ _ => hA2) (fun _ _ _ => hO j y hy hy1) (fun _ _ _ => hO q z hz hz1) (.inr (.inr (.inr ⟨rfl, rfl, rfl, q, z, rfl, hz, ?_⟩)))
            unfold outOk at hok
            rw [hj, hqe, hz6, Int.toNat_natCast, Int.toNat_natCast] at hok
            omega
        · have hok : ¬ outOk l i := by
            intro hok
            have := hok.2.1
            rw [hj] at this
            exact hq this
          rw [if_neg hok]
          exact Outdent_no (pl := 0) (po := 0) hr hb ⟨by omega, by omega⟩ hP hI (fun _ _ => hA j) (fun _ _ h => absurd h hq) (fun _ _ h => absurd h hq) (.inr (.inr (.inl ⟨rfl, rfl, rfl, by omega⟩)))
      · have hok : ¬ outOk l i := fun hok => ha hok.1
        have hd : decide (0 ≤ aroundL l (i : Int)) = false := by simpa using ha
        rw [hd] at hI
        rw [if_neg hok]
        exact Outdent_no (out := 0) (pl := 0) (po := 0) hr hb ⟨by omega, by omega⟩ hP hI (by simp) (by simp) (by simp) (.inr (.inl ⟨rfl, rfl, rfl⟩))
  · have he : outErr l p = placesErr l p p := by unfold outErr; rw [if_pos hp]
    rw [he]
    exact Outdent_no (out := 0) (pl := 0) (po := 0) (en := (itemV l p).2.1) hr hb (by
      unfold itemV
      cases itemsL l p with
      | nil => simp
      | cons x r => have := part_bound (l := l) (i := x.toNat) hb; simp only; omega) hP hI (fun h => absurd h hp) (fun h => absurd h hp) (fun h => absurd h hp) (.inl ⟨hp, rfl⟩)

def indSt (l : List Tok) (p : Int) : StepD := match itemsL l p with
  | [] => repl 0 0 []
  | x :: _ => nInd l x.toNat (aroundL l x).toNat
def indErr (l : List Tok) (p : Int) : Int := if placesErr l p p ≠ 0 then placesErr l p p else match itemsL l p with
  | [] => 6
  | x :: _ => if l[x.toNat - 1]? = some shutT then remapErr l (nInd l x.toNat (aroundL l x).toNat) else 6
theorem right_shut {x : Tok} (h : rightB x = true) (h2 : x.k = 2) : x = shutT := by
  have h3 : RightP x := of_decide_eq_true h
  unfold RightP at h3
  obtain ⟨k, t, n, m⟩ := x
  simp only at h2 h3 ⊢
  subst h2
  have h4 : t = 0 ∧ n = 0 ∧ m = 0 := by omega
  obtain ⟨rfl, rfl, rfl⟩ := h4
  rfl
theorem Indent_calls {w : World} {F : Nat → Prop} {cb : Nat} {A : Option Addr} {c : Nat} {l : List Tok} {p : Int} (h : SchR w cb houseRules houseGroups) (hr : tokR.row w F A l) (hlc : l.length ≤ c) (hb : l.length ≤ 2048) :
    Calls Tryz.prog 53 #[.pointer (some ⟨cb, 0, none⟩), .slice A l.length c, .int .i64 p] w (NTold (indSt l p) (indErr l p) w) := by
  have hP := fun W (hu : Pure w W) => nat_calls (c := c) (p := p) (h.pure hu) (Rp.row_pure hr hu) (by omega)
  have hI := fun W (hu : Pure w W) => item_calls (cb := cb) (c := c) (p := p) (Rp.row_pure hr hu) hb hlc
  by_cases hp : placesErr l p p = 0
  · obtain ⟨hl, p0, _, p1⟩ := places_zero.1 hp
    have hne := house_ne hl
    rw [hp] at hP
    cases hs : itemsL l p with
    | nil =>
      have he : indErr l p = 6 := by unfold indErr; rw [if_neg (by omega), hs]
      rw [he]
      have hv : itemV l p = (0, 0, 0, false) := by unfold itemV; rw [hs]
      rw [hv] at hI
      simp only at hI
      exact Indent_no (x := 0) (x1 := 0) hr hb hP hI (.inr (.inl ⟨rfl, rfl, rfl⟩))
    | cons x r =>
      obtain ⟨n, rfl⟩ := Int.eq_ofNat_of_zero_le p0
      obtain ⟨i, j, o, y, s, M, m, rfl, hxn, hi, ho1, ho6, htk, hM, hnm, e1, e2, e3, e4, e5⟩ := item_lay hl (by omega) hs
      have hil := (List.getElem?_eq_some_iff.1 hi).1
      have hjl := (List.getElem?_eq_some_iff.1 e3).1
      have hv : itemV l n = ((i : Int), partL l i + 1, (j : Int), true) := by unfold itemV; rw [hs]; simp only; rw [e2]; simp
      rw [hv] at hI
      simp only at hI
      have hbd := part_bound (i := i) hb
      have hS : indSt l n = nInd l i j := by unfold indSt; rw [hs]; simp only; rw [e2]; rfl
      have hE : indErr l n = if l[i - 1]? = some shutT then remapErr l (nInd l i j) else 6 := by unfold indErr; rw [if_neg (by omega), hs]; simp only; rw [e2]; rfl
      rw [hS, hE]
      obtain ⟨i1, rfl⟩ : ∃ i1, i = i1 + 1 := ⟨i - 1, by
        rcases Nat.eq_zero_or_pos i with h0 | h0
        · subst h0; simp [stkGo] at e1
        · omega⟩
      rw [show i1 + 1 - 1 = i1 by omega]
      obtain ⟨y1, hy1⟩ : ∃ y1, l[i1]? = some y1 := ⟨_, List.getElem?_eq_getElem (by omega)⟩
      have hrt := house_rights hl
      by_cases hsh : l[i1]? = some shutT
      · rw [if_pos hsh]
        by_cases hA : indA l (i1 + 1) j
        · obtain ⟨i2, rfl⟩ : ∃ i2, i1 = i2 + 1 := ⟨i1 - 1, by have := hA.1; omega⟩
          have hA' := hA
          obtain ⟨ha1, ha2, ha3⟩ := hA'
          rw [show i2 + 1 + 1 - 2 = i2 by omega] at ha2 ha3
          obtain ⟨q, z, hq, hz, hz1, hqi⟩ := around_open (l := l) (p := (i2 : Int)) (by
            intro e
            -- something is open there: two more ends follow
            have hd := house_dpt hl
            rw [around_at (by omega)] at e
            have hst := stk_snoc ha2
            have hst2 := stk_snoc hsh
            unfold stkStep at hst hst2
            rw [if_neg (by decide), if_pos rfl] at hst hst2
            rw [e1, hst] at hst2
            cases hc : (stkGo 0 (l.take i2) []) with
            | nil => rw [hc] at hst2; simp at hst2
            | cons a b =>
              rw [hc] at e
              have hne : a :: b ≠ [] := by simp
              rw [List.getLast?_eq_some_getLast hne] at e
              simp only [Option.getD_some] at e
              have hm := List.getLast_mem hne
              generalize (a :: b).getLast hne = g at hm e
              rw [← hc] at hm
              rcases stkGo_mem (l.take i2) 0 [] _ hm with h9 | ⟨j9, x9, h9, _⟩
              · cases h9
              · omega)
          rw [hq, Int.toNat_natCast, hz, e3] at ha3
          simp only [Option.some.injEq] at ha3
          subst ha3
          have hn : nInd l (i2 + 1 + 1) j = arnd ((i2 : Int)) (partL l (i2 + 1 + 1) + 1) ((i2 + 2 : Nat) : Int) (partL l (i2 + 1 + 1) + 1) 0 [shutT, shutT] := by
            unfold nInd
            rw [if_pos hA, show (((i2 + 1 + 1 : Nat) : Int) - 2) = (i2 : Int) by omega]
          rw [hn]
          have hPt := fun W (hu : Pure w W) => Partner_shut (c := c) (Rp.row_pure hr hu) (by omega) hlc ha2 rfl
          rw [hq] at hPt
          exact Indent_a hr hb hP hI hPt e3 e4 hsh ha2 hz (fun W T ct hW hrow => ntell_doc (h.pure hW) hne (Rp.row_pure hr hW) hlc (by omega) (by simp) hrow (by simp))
        · have hn : nInd l (i1 + 1) j = arnd ((i1 : Nat) : Int) (partL l (i1 + 1) + 1) ((i1 + 1 : Nat) : Int) (partL l (i1 + 1) + 1) 1 [y, shutT, shutT] := by
            unfold nInd
            rw [if_neg hA, e3, show (((i1 + 1 : Nat) : Int) - 1) = (i1 : Int) by omega]
            rfl
          rw [hn]
          refine Indent_b hr hb hP hI e3 e4 hsh ?_ (fun W T ct hW hrow => ntell_doc (h.pure hW) hne (Rp.row_pure hr hW) hlc (by omega) (by simp) hrow (by simp))
          rcases Nat.eq_zero_or_pos i1 with h0 | h0
          · exact .inl h0
          · obtain ⟨i2, rfl⟩ : ∃ i2, i1 = i2 + 1 := ⟨i1 - 1, by omega⟩
            obtain ⟨y2, hy2⟩ : ∃ y2, l[i2]? = some y2 := ⟨_, List.getElem?_eq_getElem (by omega)⟩
            refine .inr ⟨i2, y2, rfl, hy2, ?_⟩
            by_cases hk2 : y2.k = 2
            · right
              have hsh2 := right_shut (hrt y2 (List.mem_of_getElem? hy2)) hk2
              subst hsh2
              have hst := stk_snoc hy2
              have hst2 := stk_snoc hsh
              unfold stkStep at hst hst2
              rw [if_neg (by decide), if_pos rfl] at hst hst2
              rw [e1, hst] at hst2
              obtain ⟨u, a, hua⟩ : ∃ u a, stkGo 0 (l.take i2) [] = u ++ [a] := by
                have hn0 : stkGo 0 (l.take i2) [] ≠ [] := by intro e; rw [e] at hst2; simp at hst2
                exact ⟨_, _, (List.dropLast_concat_getLast hn0).symm⟩
              obtain ⟨q, z, B, rfl, hqi, hz, hz1, _, _, _⟩ := around_piece (house_dpt hl) i2 (by omega) u a hua
              have hq : aroundL l (i2 : Int) = (q : Int) := by rw [around_at (by omega), hua]; simp
              have hPt := fun W (hu : Pure w W) => Partner_shut (c := c) (Rp.row_pure hr hu) (by omega) hlc hy2 rfl
              rw [hq] at hPt
              refine ⟨rfl, q, z, hz, hz1, hPt, ?_⟩
              have hzy : z ≠ y := by
                intro e
                refine hA ⟨by omega, ?_, ?_⟩
                · rw [show i2 + 1 + 1 - 2 = i2 by omega]; exact hy2
                · rw [show i2 + 1 + 1 - 2 = i2 by omega, hq, Int.toNat_natCast, hz, e3, e]
              have r1 := right_open (hrt z (List.mem_of_getElem? hz)) hz1
              have r2 := right_open (hrt y (List.mem_of_getElem? e3)) e4
              by_cases ht : z.t = y.t
              · right
                refine ⟨ht, fun hn => hzy ?_⟩
                rw [r1, r2, ht, hn]
              · exact .inl ht
            · exact .inl hk2
      · rw [if_neg hsh]
        refine Indent_no (x1 := i1) hr hb hP hI (.inr (.inr ⟨rfl, rfl, rfl, rfl, y1, hy1, fun hk => hsh ?_⟩))
        rw [hy1, right_shut (hrt y1 (List.mem_of_getElem? hy1)) hk]
  · have he : indErr l p = placesErr l p p := by unfold indErr; rw [if_pos hp]
    rw [he]
    by_cases hv : 0 ≤ (itemV l p).1
    · obtain ⟨n, hn⟩ := Int.eq_ofNat_of_zero_le hv
      rw [hn] at hI
      exact Indent_no (x1 := 0) hr hb hP hI (.inl ⟨hp, rfl⟩)
    · exfalso
      apply hv
      unfold itemV
      cases hs : itemsL l p with
      | nil => simp
      | cons x r =>
        obtain ⟨i, o, rfl, _⟩ := items_open (l := l) (l.length + 1) p x (by
          have : itemsL l p = itemsGo l (l.length + 1) (aroundL l p) := rfl
          rw [← this, hs]; simp)
        simp only
        omega

/-! ### The statements' own words -/
set_option maxRecDepth 100000 in
set_option maxHeartbeats 4000000 in
theorem twin27_zero (w : World) : Calls Tryz.prog 57 #[step0, step0] w fun r w' => r = .returned (.bool true) ∧ Pure w w' := by
  have HA := As.mk (fun (W : World) => Alike27_same (c := 0) (c' := 0) (A := none) (B := none) (F := fun _ => True) (G := fun _ => True) (l := []) (w := W) (.inl rfl) (.inl rfl) (by simp))
  go_enter Tryz.func57, Tryz.ntmps57
  go_wp2_with (go_at_call 64; refine (HA.out _).mono ?_; rintro r w1 ⟨rfl, hu⟩; have HU1 := As.mk ((((Upd.refl _ w).alloc _).alloc _).trans hu (fun _ _ h => h)); clear hu)
  go_ret
  exact ⟨rfl, HU1.out⟩
theorem awake_place : ∃ R, AtP awakeDoc 0 R ∧ regAccepts R.2 houseGroups (mayGo awakeDoc 0 7 (kidsL awakeDoc (aroundL awakeDoc 0)) false) = true := by
  have ok : (houseCheck awakeDoc).2 = 0 := by kernel_rfl
  obtain ⟨R, hR⟩ := at_place ok (by decide) (n := 0) (by decide)
  refine ⟨R, hR, ?_⟩
  rcases hR.whole with ⟨_, h2⟩ | ⟨j, yt, y, h2, _⟩
  · have e2 : R = ruleOf houseRules ((0 : Nat) : Int) := by
      unfold ruleOf
      rw [Int.toNat_natCast, h2]
      rfl
    rw [e2]
    show regAccepts (ruleOf houseRules ((0 : Nat) : Int)).2 houseGroups (mayGo awakeDoc 0 7 (kidsL awakeDoc (aroundL awakeDoc 0)) false) = true
    kernel_rfl
  · have : aroundL awakeDoc ((0 : Nat) : Int) = -1 := by kernel_rfl
    omega
set_option maxRecDepth 100000 in
set_option maxHeartbeats 4000000 in
theorem Chain_may {w : World} {cb : Nat} {A : Option Addr} {c n : Nat} {at' t e : Int} (ht : t ≠ 0)
    (hc : ∀ W, Pure w W → Calls Tryz.prog 17 #[.pointer (some ⟨cb, 0, none⟩), .slice A n c] W fun r w' => r = .returned (.tuple #[.int .i64 e, .int .i64 0]) ∧ Pure W w')
    (hm : ∀ W, Pure w W → Calls Tryz.prog 21 #[.pointer (some ⟨cb, 0, none⟩), .slice A n c, .int .i64 at', .int .i64 t] W fun r w' => r = .returned (.bool true) ∧ Pure W w') :
    Calls Tryz.prog 109 #[.pointer (some ⟨cb, 0, none⟩), .slice A n c, .int .i64 at', .int .i64 t] w fun r w' => r = .returned (.tuple #[.slice none 0 0, .bool true]) ∧ Pure w w' := by
  have HC := As.mk hc
  have HM := As.mk hm
  have f0 : (t == 0) = false := by simpa using ht
  clear hc hm ht
  go_enter Tryz.func109, Tryz.ntmps109
  go_wp2_with (first | (go_at_call 21; refine (HM.out _ HU1.out).mono ?_; rintro r w2 ⟨rfl, hu⟩; have HU2 := As.mk (HU1.out.trans hu (fun _ _ h => h)); clear hu) | (go_at_call 17; refine (HC.out _ (Upd.refl _ _)).mono ?_; rintro r w1 ⟨rfl, hu⟩; have HU1 := As.mk hu; clear hu))
  go_simp
  refine bodyPost_ret (results_tmp2 rfl _ _ _) rfl ?_
  exact ⟨rfl, HU2.out⟩
set_option maxRecDepth 100000 in
set_option maxHeartbeats 4000000 in
theorem awake27_calls (w : World) : Calls Tryz.prog 52 #[] w fun r w' => r = .returned (.bool true) ∧ Pure w w' := by
  have HH := As.mk (fun W => House_calls W)
  have HC := As.mk (fun (W V : World) (cb : Nat) (hV : V = W.alloc (.cells #[.int .i64 1, .int .i64 1, .int .i64 0, .int .i64 0, .int .i64 2, .int .i64 0, .int .i64 0, .int .i64 0] 71)) (hs : SchR W cb houseRules houseGroups) => (by
    have hp : Pure W V := hV ▸ Upd.alloc1 _ _ _
    have r1 : tokR.row V (fun _ => True) (some ⟨W.heap.size, 0, none⟩) awakeDoc := hV ▸ row_toks (F := fun _ => True) (heap_alloc_new W _) trivial
    have ok : (houseCheck awakeDoc).2 = 0 := by kernel_rfl
    obtain ⟨R, hR, hacc⟩ := awake_place
    exact (Chain_may (n := 2) (e := (houseCheck awakeDoc).1) (t := 7) (by decide) (fun X hX => (by
      have h9 := house_check (c := 2) ((hs.pure hp).pure hX) (Rp.row_pure r1 hX) (by decide)
      rw [ok] at h9
      exact h9)) (fun X hX => (by
      have h9 := May_ok (t := 7) ((hs.pure hp).pure hX) (Rp.row_pure r1 hX) (by decide) (c := 2) (by decide) ok (by decide) hR
      rw [show (((0 : Nat) : Int)) = 0 from rfl, hacc] at h9
      exact h9))).mono (fun r w' h => ⟨h.1, hp.trans h.2 (fun _ _ h => h)⟩) :
    Calls Tryz.prog 109 #[.pointer (some ⟨cb, 0, none⟩), .slice (some ⟨W.heap.size, 0, none⟩) 2 2, .int .i64 0, .int .i64 7] V fun r w' => r = .returned (.tuple #[.slice none 0 0, .bool true]) ∧ Pure W w'))
  go_enter Tryz.func52, Tryz.ntmps52
  go_wp2_with (first | (go_at_call 109; refine (HC.out _ _ _ rfl HS1.out).mono ?_; rintro r w2 ⟨rfl, hu⟩; have HU2 := As.mk (HU1.out.trans hu (fun _ _ h => h)); clear hu) | (go_at_call 15; refine (HH.out w).mono ?_; rintro r w1 ⟨cb1, rfl, hs, hu⟩; have HS1 := As.mk hs; have HU1 := As.mk hu; clear hu hs))
  go_ret
  exact ⟨rfl, HU2.out⟩
end Go.Proofs.YtfapglhdakhbeaaGreatDoor
namespace Go.Proofs.YtfapglhdakhbeaaGreatDoor
open Go.RowKit
set_option linter.unusedVariables false
set_option linter.unusedSimpArgs false

abbrev arndW (a b g h ins : Int) (B : Option Addr) (n c : Nat) : Value := .agg #[.int .i64 1, .int .i64 a, .int .i64 b, .int .i64 g, .int .i64 h, .int .i64 ins, .slice B n c, .int .i64 0]
def ArndT (a b g h ins : Int) (sl : List Tok) (w : World) (r : Ending) (w' : World) : Prop :=
  (∃ B' c', r = .returned (.tuple #[arndW a b g h ins B' sl.length c', .int .i64 0]) ∧ tokR.row w' (fun _ => True) B' sl ∧ sl.length ≤ c' ∧ (sl = [] → B' = none ∧ c' = 0)) ∧ Pure w w'
theorem NTold.arnd {s : StepD} {w w' : World} {r : Ending} {a b g h ins : Int} {sl : List Tok} (hn : NTold s 0 w r w') (hs : s = arnd a b g h ins sl) : ArndT a b g h ins sl w r w' := by
  subst hs
  obtain ⟨B', c', ⟨rfl, h3⟩, ⟨h4, h5, hz⟩, _⟩ := hn
  exact ⟨⟨B', c', rfl, Rp.row_fp h4 (fun _ _ => trivial), h5, hz⟩, h3⟩
theorem NTold.refused {s : StepD} {e : Int} {w w' : World} {r : Ending} (hn : NTold s e w r w') (h0 : e ≠ 0) : r = .returned (.tuple #[step0, .int .i64 e]) ∧ Pure w w' := by
  obtain ⟨B', c', ⟨rfl, h3⟩, _, h6⟩ := hn
  obtain ⟨rfl, rfl⟩ := h6 h0
  rw [toldS_refused h0]
  exact ⟨rfl, h3⟩
theorem Apply_arndW {w : World} {F G : Nat → Prop} {A B : Option Addr} {c cb : Nat} {l sl x : List Tok} {a b g h ins : Int} (hne : l ≠ []) (hr : tokR.row w F A l) (hlc : l.length ≤ c) (hb : l.length ≤ 1048576 * 4) (hs : tokR.row w G B sl) (hsc : sl.length ≤ cb) (hsb : sl.length ≤ 1048576 * 4) (hz : sl = [] → B = none ∧ cb = 0) (h0 : remapErr l (arnd a b g h ins sl) = 0) (hx : stepDo l (arnd a b g h ins sl) = x) :
    Calls Tryz.prog 59 #[.slice A l.length c, arndW a b g h ins B sl.length cb] w (fun r w' => (∃ B1, r = .returned (.tuple #[.slice (some B1) x.length x.length, .int .i64 0]) ∧ tokR.row w' (fun _ => True) (some B1) x) ∧ Pure w w') := by
  obtain ⟨r1, r2, r3, _⟩ := remap_zero.1 h0
  have h1 := Apply_doc (s := arnd a b g h ins sl) (cs := cb) hr hb hs hsb (doc_arnd hne hr hlc hs hsc hz r1 r2 r3) h0
  rw [hx] at h1
  exact h1.mono fun r w' ⟨⟨B1, h2, h3⟩, h4⟩ => ⟨⟨B1, h2, Rp.row_fp h3 (fun _ _ => trivial)⟩, h4⟩
theorem out_zero {l : List Tok} {p : Int} (h : outErr l p = 0) : (houseCheck l).2 = 0 ∧ 0 ≤ p ∧ p ≤ l.length ∧ ∃ x r, itemsL l p = x :: r ∧ outOk l x.toNat ∧ remapErr l (nOut l x.toNat (aroundL l x).toNat) = 0 ∧ outSt l p = nOut l x.toNat (aroundL l x).toNat := by
  unfold outErr at h
  by_cases hp : placesErr l p p = 0
  · obtain ⟨h1, h2, _, h3⟩ := places_zero.1 hp
    rw [if_neg (by omega)] at h
    cases hs : itemsL l p with
    | nil => rw [hs] at h; simp at h
    | cons x r =>
      rw [hs] at h
      simp only at h
      by_cases hok : outOk l x.toNat
      · rw [if_pos hok] at h
        exact ⟨h1, h2, h3, x, r, rfl, hok, h, by unfold outSt; rw [hs]⟩
      · rw [if_neg hok] at h
        simp at h
  · rw [if_pos hp] at h
    exact absurd h hp
theorem ind_zero {l : List Tok} {p : Int} (h : indErr l p = 0) : (houseCheck l).2 = 0 ∧ 0 ≤ p ∧ p ≤ l.length ∧ ∃ x r, itemsL l p = x :: r ∧ l[x.toNat - 1]? = some shutT ∧ remapErr l (nInd l x.toNat (aroundL l x).toNat) = 0 ∧ indSt l p = nInd l x.toNat (aroundL l x).toNat := by
  unfold indErr at h
  by_cases hp : placesErr l p p = 0
  · obtain ⟨h1, h2, _, h3⟩ := places_zero.1 hp
    rw [if_neg (by omega)] at h
    cases hs : itemsL l p with
    | nil => rw [hs] at h; simp at h
    | cons x r =>
      rw [hs] at h
      simp only at h
      by_cases hok : l[x.toNat - 1]? = some shutT
      · rw [if_pos hok] at h
        exact ⟨h1, h2, h3, x, r, rfl, hok, h, by unfold indSt; rw [hs]⟩
      · rw [if_neg hok] at h
        simp at h
  · rw [if_pos hp] at h
    exact absurd h hp
theorem nout_arnd (l : List Tok) (x li : Nat) : ∃ a b g h ins sl, nOut l x li = arnd a b g h ins sl ∧ sl ≠ [] := by
  unfold nOut
  split
  · exact ⟨_, _, _, _, _, _, rfl, by simp⟩
  · exact ⟨_, _, _, _, _, _, rfl, by simp⟩
theorem nind_arnd (l : List Tok) (x li : Nat) : ∃ a b g h ins sl, nInd l x li = arnd a b g h ins sl ∧ sl ≠ [] := by
  unfold nInd
  split
  · exact ⟨_, _, _, _, _, _, rfl, by simp⟩
  · exact ⟨_, _, _, _, _, _, rfl, by simp⟩
theorem items_len (l : List Tok) (p : Int) : (itemsL l p).length ≤ l.length + 1 := by
  unfold itemsL
  have : ∀ (f : Nat) (i : Int), (itemsGo l f i).length ≤ f := by
    intro f
    induction f with
    | zero => intro i; simp [itemsGo]
    | succ f ih =>
      intro i
      rw [itemsGo]
      split
      · simp
      · rw [List.length_append]
        have := ih (aroundL l i)
        split <;> simp <;> omega
  exact this _ _
end Go.Proofs.YtfapglhdakhbeaaGreatDoor
