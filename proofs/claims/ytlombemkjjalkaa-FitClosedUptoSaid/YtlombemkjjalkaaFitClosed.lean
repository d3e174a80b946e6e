/- The law FitClosed: what it tells. -/
import Derived.Test.YtlombemkjjalkaaFlat
import Derived.Test.YtlombemkjjalkaaFitSlices
import Derived.Test.YtlombemkjjalkaaAlike
namespace Go.Proofs.Ytlombemkjjalkaa
open Go.RowKit
set_option linter.unusedVariables false
set_option linter.unusedSimpArgs false

theorem cloGo_shuts (n : Nat) : cloGo n (List.replicate n shut) = List.replicate n shut := by
  induction n with
  | zero => rfl
  | succ n ih => simp [List.replicate_succ, cloGo, ih]
theorem cloGo_twice (l : List Tok) (d : Nat) : cloGo d (cloGo d l) = cloGo d l := by
  induction l generalizing d with
  | nil => exact cloGo_shuts d
  | cons t r ih =>
    by_cases h1 : t.k = 1
    · simp [cloGo, h1, ih]
    · by_cases h2 : t.k = 2
      · by_cases h0 : d = 0
        · simp [cloGo, h2, h0, ih]
        · simp [cloGo, h2, h0, ih]
      · simp [cloGo, h1, h2, ih]
theorem closed_twice (l : List Tok) : closed (closed l) = closed l := cloGo_twice l 0
theorem textB_cons (t : Tok) (r : List Tok) : textB (t :: r) = (if (decide (t.k = 0) && rightB t) = true then runeB t.n else []) ++ textB r := by
  unfold textB
  by_cases h : (decide (t.k = 0) && rightB t) = true
  · rw [List.filter_cons_of_pos (p := fun t => decide (t.k = 0) && rightB t) h, if_pos h, List.flatMap_cons]
  · rw [List.filter_cons_of_neg (p := fun t => decide (t.k = 0) && rightB t) h, if_neg h, List.nil_append]
theorem textB_shuts (n : Nat) : textB (List.replicate n shut) = [] := by
  induction n with
  | zero => rfl
  | succ n ih => simp [List.replicate_succ, textB_cons, ih]
theorem textB_clo (l : List Tok) (d : Nat) : textB (cloGo d l) = textB l := by
  induction l generalizing d with
  | nil => exact textB_shuts d
  | cons t r ih =>
    by_cases h1 : t.k = 1
    · simp [cloGo, h1, textB_cons, ih]
    · by_cases h2 : t.k = 2
      · by_cases h0 : d = 0
        · simp [cloGo, h2, h0, ih, textB_cons]
        · simp [cloGo, h2, h0, ih, textB_cons]
      · simp [cloGo, h1, h2, ih, textB_cons]
theorem textB_closed (l : List Tok) : textB (closed l) = textB l := textB_clo l 0
theorem fcGo_clo (l : List Tok) (i n : Nat) (h : (fcGo i n l).2 = 0) : cloGo n l = l := by
  induction l generalizing i n with
  | nil =>
    by_cases h0 : n = 0
    · simp [cloGo, h0]
    · simp [fcGo, h0] at h
  | cons t r ih =>
    by_cases hr : rightB t = false ∨ (t.k = 2 ∧ n = 0)
    · simp [fcGo, hr] at h
    · by_cases h1 : t.k = 1
      · by_cases h32 : n = 32
        · simp [fcGo, hr, h1, h32] at h
          split at h <;> simp at h
        · rw [fcGo, if_neg hr, if_pos h1, if_neg h32] at h
          rw [cloGo, if_pos h1, ih _ _ h]
      · by_cases h2 : t.k = 2
        · have h0 : n ≠ 0 := fun h => hr (.inr ⟨h2, h⟩)
          rw [fcGo, if_neg hr, if_neg h1, if_pos h2] at h
          rw [cloGo, if_neg h1, if_pos h2, if_neg h0, ih _ _ h]
        · rw [fcGo, if_neg hr, if_neg h1, if_neg h2] at h
          rw [cloGo, if_neg h1, if_neg h2, ih _ _ h]
theorem check_closed {l : List Tok} (h : (flatCheck l).2 = 0) : closed l = l := by
  unfold flatCheck at h
  split at h
  · simp at h
  · exact fcGo_clo l 0 0 h
theorem fcGo_shuts (i n : Nat) : (fcGo i n (List.replicate n shut)).2 = 0 := by
  induction n generalizing i with
  | zero => rfl
  | succ n ih =>
    have hr : rightB shut = true := by decide
    simp [List.replicate_succ, fcGo, hr, ih]
theorem fcGo_right (l : List Tok) (i n : Nat) (h : ∀ t ∈ l, rightB t = true) : (fcGo i n (cloGo n l)).2 = 0 ∨ (fcGo i n (cloGo n l)).2 = 8 := by
  induction l generalizing i n with
  | nil => exact .inl (fcGo_shuts i n)
  | cons t r ih =>
    have ht := h t (by simp)
    have hrr : ∀ t ∈ r, rightB t = true := fun x hx => h x (by simp [hx])
    by_cases h1 : t.k = 1
    · by_cases h32 : n = 32
      · right
        simp [cloGo, fcGo, h1, ht, h32]
      · have := ih (i + 1) (n + 1) hrr
        simpa [cloGo, fcGo, h1, ht, h32] using this
    · by_cases h2 : t.k = 2
      · by_cases h0 : n = 0
        · have := ih i n hrr
          simpa [cloGo, h2, h0] using (h0 ▸ this)
        · have := ih (i + 1) (n - 1) hrr
          simpa [cloGo, fcGo, h2, ht, h0] using this
      · have := ih (i + 1) n hrr
        simpa [cloGo, fcGo, h1, h2, ht] using this
theorem check_right {l : List Tok} (h : ∀ t ∈ l, rightB t = true) : (flatCheck (closed l)).2 = 0 ∨ (flatCheck (closed l)).2 = 8 ∨ (flatCheck (closed l)).2 = 2 := by
  unfold flatCheck
  split
  · simp
  · rcases fcGo_right l 0 0 h with h | h
    · exact .inl h
    · exact .inr (.inl h)
theorem all_take {l : List Tok} {k : Nat} {x : Tok} (hx : l[k]? = some x) : (l.take (k + 1)).all rightB = ((l.take k).all rightB && rightB x) := by
  rw [List.take_add_one, hx, List.all_append]
  simp

set_option maxRecDepth 100000 in
set_option maxHeartbeats 4000000 in
theorem FitClosed_walk {F : Nat → Prop} {A : Option Addr} {c : Nat} {l : List Tok} {w : World} (hr : tokR.row w F A l) (hb : l.length ≤ 1048576) :
    Calls Try.prog 6 #[.slice A l.length c] w fun e w' => e = .returned (.bool true) ∧ Pure w w' := by
  have HR := As.mk hr
  have HE := As.mk (@check_right l)
  have HCC := As.mk (@check_closed l)
  have hcl := closed_len l
  clear hr
  generalize he1 : (flatCheck (closed l)).1 = e1 at *
  generalize he2 : (flatCheck (closed l)).2 = e2 at *
  generalize hf1 : (flatCheck l).1 = f1 at *
  generalize hf2 : (flatCheck l).2 = f2 at *
  have HE1 := As.mk he1
  have HE2 := As.mk he2
  have HF1 := As.mk hf1
  have HF2 := As.mk hf2
  clear he1 he2 hf1 hf2
  go_enter Try.func6, Try.ntmps6
  go_wp2_with (first
    | (go_at_call 10; with_reducible refine (Closed_calls HR.out (by omega)).mono ?_; rintro e w1 ⟨v, rfl, ho, hu⟩; obtain ⟨A1, cc1, rfl, hcc1, hr1⟩ := Rp.own_slice ho; have HR1 := As.mk hr1; have HU1 := As.mk hu; clear ho hu hr1)
    | (go_at_call 16; with_reducible refine (Check_calls HR1.out (by omega)).mono ?_; rintro e w2 ⟨rfl, hu⟩; rw [HE1.out, HE2.out]; have HV2 := As.mk hu; have HU2 := As.mk (Upd.trans HU1.out hu (fun _ _ h => h)); clear hu)
    | (go_at_call 16; with_reducible refine (Check_calls (Rp.row_pure HR.out HU2.out) (by omega)).mono ?_; rintro e w3 ⟨rfl, hu⟩; rw [HF1.out, HF2.out]; have HV3 := As.mk (Upd.trans HV2.out hu (fun _ _ h => h)); have HU3 := As.mk (Upd.trans HU2.out hu (fun _ _ h => h)); clear hu))
  have HR1' := As.mk (Rp.row_pure HR1.out HV3.out)
  go_loopg [8, 9] l.length (fun g r i wr => ∃ k : Nat, k + g = l.length ∧ i = .int .i64 k ∧ r = .bool ((l.take k).all rightB) ∧ As (Pure w3 wr))
  case atStart => exact ⟨0, by omega, rfl, by simp, ⟨Upd.refl _ _⟩⟩
  case round =>
    obtain ⟨k, hk, rfl, rfl, HP⟩ := hrel
    by_cases hlt : k < l.length
    · obtain ⟨x, hx⟩ : ∃ x, l[k]? = some x := ⟨_, List.getElem?_eq_getElem hlt⟩
      obtain ⟨b, o, rfl, hF, hbl, c0, c1, c2, c3⟩ := tok_at (Rp.row_pure (Rp.row_pure HR.out HU3.out) HP.out) hx
      obtain ⟨g1, rfl⟩ : ∃ m, gk = m + 1 := ⟨gk - 1, by omega⟩
      have HT := As.mk (all_take hx)
      have HK := As.mk hk
      clear hk hx
      cases hq : (l.take k).all rightB
      · rw [hq] at HT
        clear hq
        go_wp2
        go_roundg g1
        case measure => omega
        case rel => exact ⟨k + 1, by have := HK.out; omega, by go_num, by rw [HT.out]; simp, HP⟩
      · rw [hq] at HT
        clear hq
        go_wp2_with (go_at_call 15; refine (flatRight_calls x _).mono ?_; rintro e w4 ⟨rfl, hu⟩; have HU4 := As.mk hu; obtain ⟨oc, of⟩ := hu.olds; have hz1 := hu.size; clear hu)
        go_roundg g1
        case measure => omega
        case rel => exact ⟨k + 1, by have := HK.out; omega, by go_num, by rw [HT.out]; simp, ⟨HP.out.trans HU4.out (fun _ _ h => h)⟩⟩
    · have hkl : k = l.length := by omega
      subst hkl
      rw [List.take_length]
      have HE' : As (l.all rightB = true → e2 = 0 ∨ e2 = 8 ∨ e2 = 2) := ⟨fun h => HE.out (fun t ht => List.all_eq_true.1 h t ht)⟩
      have HRx := As.mk (Rp.row_pure HR1'.out HP.out)
      have HRl := As.mk (Rp.row_pure (Rp.row_pure HR.out HU3.out) HP.out)
      have HPx := As.mk (HU3.out.trans HP.out (fun _ _ h => h))
      clear HE HR HR1 HR1' HU1 HU2 HU3 HV2 HV3 HP
      by_cases h0 : f2 = 0
      · have HD := As.mk (show decide (closed l = l) = true from decide_eq_true (HCC.out h0))
        subst h0
        cases hq : l.all rightB
        · clear hq HE'
          go_wp2_with (first
                | (go_at_call 9; with_reducible refine (Alike_calls HRx.out HRl.out (by omega) (by omega)).mono ?_; rintro e w5 ⟨rfl, hu⟩; rw [HD.out]; have HA1 := As.mk hu; clear hu)
                | (go_at_call 17; with_reducible refine (Text_calls (Rp.row_pure HRx.out HA1.out) (by omega)).mono ?_; rintro e w6 ⟨rfl, hu⟩; rw [textB_closed]; have HA2 := As.mk (HA1.out.trans hu (fun _ _ h => h)); clear hu)
                | (go_at_call 17; with_reducible refine (Text_calls (Rp.row_pure HRl.out HA2.out) (by omega)).mono ?_; rintro e w7 ⟨rfl, hu⟩; have HA3 := As.mk (HA2.out.trans hu (fun _ _ h => h)); clear hu)
                | (go_at_call 10; with_reducible refine (Closed_calls (Rp.row_pure HRx.out HA3.out) (by omega)).mono ?_; rintro e w8 ⟨v, rfl, ho, hu⟩; rw [closed_twice] at ho; obtain ⟨A2, cc2, rfl, hcc2, hr2⟩ := Rp.own_slice ho; have HR2 := As.mk hr2; have HA4 := As.mk (HA3.out.trans hu (fun _ _ h => h)); clear ho hu hr2)
                | (go_at_call 9; with_reducible refine (Alike_same HR2.out (Rp.row_pure HRx.out HA4.out) (by omega)).mono ?_; rintro e w9 ⟨rfl, hu⟩; have HA5 := As.mk (HA4.out.trans hu (fun _ _ h => h)); clear hu)
                | (go_at_call 14; with_reducible refine (awake13_calls _).mono ?_; rintro e w10 ⟨rfl, hu⟩; have HA6 := As.mk (HA5.out.trans hu (fun _ _ h => h)); clear hu))
          go_ret
          exact ⟨rfl, HPx.out.trans HA6.out (fun _ _ h => h)⟩
        · have hE := HE'.out hq
          clear HE' hq
          rcases hE with rfl | rfl | rfl
          · go_wp2_with (first
                  | (go_at_call 9; with_reducible refine (Alike_calls HRx.out HRl.out (by omega) (by omega)).mono ?_; rintro e w5 ⟨rfl, hu⟩; rw [HD.out]; have HA1 := As.mk hu; clear hu)
                  | (go_at_call 17; with_reducible refine (Text_calls (Rp.row_pure HRx.out HA1.out) (by omega)).mono ?_; rintro e w6 ⟨rfl, hu⟩; rw [textB_closed]; have HA2 := As.mk (HA1.out.trans hu (fun _ _ h => h)); clear hu)
                  | (go_at_call 17; with_reducible refine (Text_calls (Rp.row_pure HRl.out HA2.out) (by omega)).mono ?_; rintro e w7 ⟨rfl, hu⟩; have HA3 := As.mk (HA2.out.trans hu (fun _ _ h => h)); clear hu)
                  | (go_at_call 10; with_reducible refine (Closed_calls (Rp.row_pure HRx.out HA3.out) (by omega)).mono ?_; rintro e w8 ⟨v, rfl, ho, hu⟩; rw [closed_twice] at ho; obtain ⟨A2, cc2, rfl, hcc2, hr2⟩ := Rp.own_slice ho; have HR2 := As.mk hr2; have HA4 := As.mk (HA3.out.trans hu (fun _ _ h => h)); clear ho hu hr2)
                  | (go_at_call 9; with_reducible refine (Alike_same HR2.out (Rp.row_pure HRx.out HA4.out) (by omega)).mono ?_; rintro e w9 ⟨rfl, hu⟩; have HA5 := As.mk (HA4.out.trans hu (fun _ _ h => h)); clear hu)
                  | (go_at_call 14; with_reducible refine (awake13_calls _).mono ?_; rintro e w10 ⟨rfl, hu⟩; have HA6 := As.mk (HA5.out.trans hu (fun _ _ h => h)); clear hu))
            go_ret
            exact ⟨rfl, HPx.out.trans HA6.out (fun _ _ h => h)⟩
          · go_wp2_with (first
                  | (go_at_call 9; with_reducible refine (Alike_calls HRx.out HRl.out (by omega) (by omega)).mono ?_; rintro e w5 ⟨rfl, hu⟩; rw [HD.out]; have HA1 := As.mk hu; clear hu)
                  | (go_at_call 17; with_reducible refine (Text_calls (Rp.row_pure HRx.out HA1.out) (by omega)).mono ?_; rintro e w6 ⟨rfl, hu⟩; rw [textB_closed]; have HA2 := As.mk (HA1.out.trans hu (fun _ _ h => h)); clear hu)
                  | (go_at_call 17; with_reducible refine (Text_calls (Rp.row_pure HRl.out HA2.out) (by omega)).mono ?_; rintro e w7 ⟨rfl, hu⟩; have HA3 := As.mk (HA2.out.trans hu (fun _ _ h => h)); clear hu)
                  | (go_at_call 10; with_reducible refine (Closed_calls (Rp.row_pure HRx.out HA3.out) (by omega)).mono ?_; rintro e w8 ⟨v, rfl, ho, hu⟩; rw [closed_twice] at ho; obtain ⟨A2, cc2, rfl, hcc2, hr2⟩ := Rp.own_slice ho; have HR2 := As.mk hr2; have HA4 := As.mk (HA3.out.trans hu (fun _ _ h => h)); clear ho hu hr2)
                  | (go_at_call 9; with_reducible refine (Alike_same HR2.out (Rp.row_pure HRx.out HA4.out) (by omega)).mono ?_; rintro e w9 ⟨rfl, hu⟩; have HA5 := As.mk (HA4.out.trans hu (fun _ _ h => h)); clear hu)
                  | (go_at_call 14; with_reducible refine (awake13_calls _).mono ?_; rintro e w10 ⟨rfl, hu⟩; have HA6 := As.mk (HA5.out.trans hu (fun _ _ h => h)); clear hu))
            go_ret
            exact ⟨rfl, HPx.out.trans HA6.out (fun _ _ h => h)⟩
          · go_wp2_with (first
                  | (go_at_call 9; with_reducible refine (Alike_calls HRx.out HRl.out (by omega) (by omega)).mono ?_; rintro e w5 ⟨rfl, hu⟩; rw [HD.out]; have HA1 := As.mk hu; clear hu)
                  | (go_at_call 17; with_reducible refine (Text_calls (Rp.row_pure HRx.out HA1.out) (by omega)).mono ?_; rintro e w6 ⟨rfl, hu⟩; rw [textB_closed]; have HA2 := As.mk (HA1.out.trans hu (fun _ _ h => h)); clear hu)
                  | (go_at_call 17; with_reducible refine (Text_calls (Rp.row_pure HRl.out HA2.out) (by omega)).mono ?_; rintro e w7 ⟨rfl, hu⟩; have HA3 := As.mk (HA2.out.trans hu (fun _ _ h => h)); clear hu)
                  | (go_at_call 10; with_reducible refine (Closed_calls (Rp.row_pure HRx.out HA3.out) (by omega)).mono ?_; rintro e w8 ⟨v, rfl, ho, hu⟩; rw [closed_twice] at ho; obtain ⟨A2, cc2, rfl, hcc2, hr2⟩ := Rp.own_slice ho; have HR2 := As.mk hr2; have HA4 := As.mk (HA3.out.trans hu (fun _ _ h => h)); clear ho hu hr2)
                  | (go_at_call 9; with_reducible refine (Alike_same HR2.out (Rp.row_pure HRx.out HA4.out) (by omega)).mono ?_; rintro e w9 ⟨rfl, hu⟩; have HA5 := As.mk (HA4.out.trans hu (fun _ _ h => h)); clear hu)
                  | (go_at_call 14; with_reducible refine (awake13_calls _).mono ?_; rintro e w10 ⟨rfl, hu⟩; have HA6 := As.mk (HA5.out.trans hu (fun _ _ h => h)); clear hu))
            go_ret
            exact ⟨rfl, HPx.out.trans HA6.out (fun _ _ h => h)⟩
      · have e0 : (f2 == 0) = false := by simp [h0]
        have HA1 : As (Pure wr wr) := ⟨Upd.refl _ _⟩
        clear h0
        cases hq : l.all rightB
        · clear hq HE'
          go_wp2_with (first
                | (go_at_call 17; with_reducible refine (Text_calls (Rp.row_pure HRx.out HA1.out) (by omega)).mono ?_; rintro e w6 ⟨rfl, hu⟩; rw [textB_closed]; have HA2 := As.mk (HA1.out.trans hu (fun _ _ h => h)); clear hu)
                | (go_at_call 17; with_reducible refine (Text_calls (Rp.row_pure HRl.out HA2.out) (by omega)).mono ?_; rintro e w7 ⟨rfl, hu⟩; have HA3 := As.mk (HA2.out.trans hu (fun _ _ h => h)); clear hu)
                | (go_at_call 10; with_reducible refine (Closed_calls (Rp.row_pure HRx.out HA3.out) (by omega)).mono ?_; rintro e w8 ⟨v, rfl, ho, hu⟩; rw [closed_twice] at ho; obtain ⟨A2, cc2, rfl, hcc2, hr2⟩ := Rp.own_slice ho; have HR2 := As.mk hr2; have HA4 := As.mk (HA3.out.trans hu (fun _ _ h => h)); clear ho hu hr2)
                | (go_at_call 9; with_reducible refine (Alike_same HR2.out (Rp.row_pure HRx.out HA4.out) (by omega)).mono ?_; rintro e w9 ⟨rfl, hu⟩; have HA5 := As.mk (HA4.out.trans hu (fun _ _ h => h)); clear hu)
                | (go_at_call 14; with_reducible refine (awake13_calls _).mono ?_; rintro e w10 ⟨rfl, hu⟩; have HA6 := As.mk (HA5.out.trans hu (fun _ _ h => h)); clear hu))
          go_ret
          exact ⟨rfl, HPx.out.trans HA6.out (fun _ _ h => h)⟩
        · have hE := HE'.out hq
          clear HE' hq
          rcases hE with rfl | rfl | rfl
          · go_wp2_with (first
                  | (go_at_call 17; with_reducible refine (Text_calls (Rp.row_pure HRx.out HA1.out) (by omega)).mono ?_; rintro e w6 ⟨rfl, hu⟩; rw [textB_closed]; have HA2 := As.mk (HA1.out.trans hu (fun _ _ h => h)); clear hu)
                  | (go_at_call 17; with_reducible refine (Text_calls (Rp.row_pure HRl.out HA2.out) (by omega)).mono ?_; rintro e w7 ⟨rfl, hu⟩; have HA3 := As.mk (HA2.out.trans hu (fun _ _ h => h)); clear hu)
                  | (go_at_call 10; with_reducible refine (Closed_calls (Rp.row_pure HRx.out HA3.out) (by omega)).mono ?_; rintro e w8 ⟨v, rfl, ho, hu⟩; rw [closed_twice] at ho; obtain ⟨A2, cc2, rfl, hcc2, hr2⟩ := Rp.own_slice ho; have HR2 := As.mk hr2; have HA4 := As.mk (HA3.out.trans hu (fun _ _ h => h)); clear ho hu hr2)
                  | (go_at_call 9; with_reducible refine (Alike_same HR2.out (Rp.row_pure HRx.out HA4.out) (by omega)).mono ?_; rintro e w9 ⟨rfl, hu⟩; have HA5 := As.mk (HA4.out.trans hu (fun _ _ h => h)); clear hu)
                  | (go_at_call 14; with_reducible refine (awake13_calls _).mono ?_; rintro e w10 ⟨rfl, hu⟩; have HA6 := As.mk (HA5.out.trans hu (fun _ _ h => h)); clear hu))
            go_ret
            exact ⟨rfl, HPx.out.trans HA6.out (fun _ _ h => h)⟩
          · go_wp2_with (first
                  | (go_at_call 17; with_reducible refine (Text_calls (Rp.row_pure HRx.out HA1.out) (by omega)).mono ?_; rintro e w6 ⟨rfl, hu⟩; rw [textB_closed]; have HA2 := As.mk (HA1.out.trans hu (fun _ _ h => h)); clear hu)
                  | (go_at_call 17; with_reducible refine (Text_calls (Rp.row_pure HRl.out HA2.out) (by omega)).mono ?_; rintro e w7 ⟨rfl, hu⟩; have HA3 := As.mk (HA2.out.trans hu (fun _ _ h => h)); clear hu)
                  | (go_at_call 10; with_reducible refine (Closed_calls (Rp.row_pure HRx.out HA3.out) (by omega)).mono ?_; rintro e w8 ⟨v, rfl, ho, hu⟩; rw [closed_twice] at ho; obtain ⟨A2, cc2, rfl, hcc2, hr2⟩ := Rp.own_slice ho; have HR2 := As.mk hr2; have HA4 := As.mk (HA3.out.trans hu (fun _ _ h => h)); clear ho hu hr2)
                  | (go_at_call 9; with_reducible refine (Alike_same HR2.out (Rp.row_pure HRx.out HA4.out) (by omega)).mono ?_; rintro e w9 ⟨rfl, hu⟩; have HA5 := As.mk (HA4.out.trans hu (fun _ _ h => h)); clear hu)
                  | (go_at_call 14; with_reducible refine (awake13_calls _).mono ?_; rintro e w10 ⟨rfl, hu⟩; have HA6 := As.mk (HA5.out.trans hu (fun _ _ h => h)); clear hu))
            go_ret
            exact ⟨rfl, HPx.out.trans HA6.out (fun _ _ h => h)⟩
          · go_wp2_with (first
                  | (go_at_call 17; with_reducible refine (Text_calls (Rp.row_pure HRx.out HA1.out) (by omega)).mono ?_; rintro e w6 ⟨rfl, hu⟩; rw [textB_closed]; have HA2 := As.mk (HA1.out.trans hu (fun _ _ h => h)); clear hu)
                  | (go_at_call 17; with_reducible refine (Text_calls (Rp.row_pure HRl.out HA2.out) (by omega)).mono ?_; rintro e w7 ⟨rfl, hu⟩; have HA3 := As.mk (HA2.out.trans hu (fun _ _ h => h)); clear hu)
                  | (go_at_call 10; with_reducible refine (Closed_calls (Rp.row_pure HRx.out HA3.out) (by omega)).mono ?_; rintro e w8 ⟨v, rfl, ho, hu⟩; rw [closed_twice] at ho; obtain ⟨A2, cc2, rfl, hcc2, hr2⟩ := Rp.own_slice ho; have HR2 := As.mk hr2; have HA4 := As.mk (HA3.out.trans hu (fun _ _ h => h)); clear ho hu hr2)
                  | (go_at_call 9; with_reducible refine (Alike_same HR2.out (Rp.row_pure HRx.out HA4.out) (by omega)).mono ?_; rintro e w9 ⟨rfl, hu⟩; have HA5 := As.mk (HA4.out.trans hu (fun _ _ h => h)); clear hu)
                  | (go_at_call 14; with_reducible refine (awake13_calls _).mono ?_; rintro e w10 ⟨rfl, hu⟩; have HA6 := As.mk (HA5.out.trans hu (fun _ _ h => h)); clear hu))
            go_ret
            exact ⟨rfl, HPx.out.trans HA6.out (fun _ _ h => h)⟩
end Go.Proofs.Ytlombemkjjalkaa
