/- reg.machine.run and ends. -/
import Derived.Test.YtchgeaklaeoplaaStep2
namespace Go.Proofs.Ytchgeaklaeoplaa
open Go.RowKit
open Go.Maps (Keyed)
set_option linter.unusedVariables false
set_option linter.unusedSimpArgs false

/-- A machine that may be run. -/
structure MOk (ts fs : List (List Int)) (p : Part) : Prop where
  lt : ts.length ≤ 1000
  tl : ∀ x ∈ ts, x.length ≤ 1048576
  fl : fs.length = ts.length
  ok : ∀ x, ∀ a ∈ nextsOf fs p x, 0 ≤ a ∧ a < ts.length
  len : ∀ x, (nextsOf fs p x).length ≤ 1048576 * 1000
  last : ∀ a ∈ p.last, 0 ≤ a ∧ a < ts.length
  ll : p.last.length ≤ 1048576

/-- Only the beginning and places. -/
def InS (T : Nat) (S : Int → Bool) : Prop := ∀ x, S x = true → -1 ≤ x ∧ x < T
def emptyS (T : Nat) (S : Int → Bool) : Bool := !((List.range (T + 1)).any (fun i => S ((i : Int) - 1)))
def startS (x : Int) : Bool := decide (x = -1)
/-- The set behind a word's longest beginning, and how long that is. -/
def runS (ts fs : List (List Int)) (p : Part) : (Int → Bool) → List Int → (Int → Bool) × Nat
  | S, [] => (S, 0)
  | S, t :: r => if emptyS ts.length (stepS ts fs p S t) then (S, 0) else ((runS ts fs p (stepS ts fs p S t) r).1, (runS ts fs p (stepS ts fs p S t) r).2 + 1)
def endsS (p : Part) (S : Int → Bool) : Bool := (S (-1) && p.none) || p.last.any S

theorem startS_in (T : Nat) : InS T startS := fun x h => by simp [startS] at h; omega
theorem stepS_in {ts fs : List (List Int)} {p : Part} (hM : MOk ts fs p) (S : Int → Bool) (t : Int) : InS ts.length (stepS ts fs p S t) := fun y h => by have := stepS_rng hM.ok y h; omega
theorem runS_in {ts fs : List (List Int)} {p : Part} (hM : MOk ts fs p) : ∀ (word : List Int) (S : Int → Bool), InS ts.length S → InS ts.length (runS ts fs p S word).1 := by
  intro word
  induction word with
  | nil => intro S h; exact h
  | cons t r ih =>
    intro S h
    unfold runS
    split
    · exact h
    · exact ih _ (stepS_in hM S t)

open Go.WideElems (Fit rd rg pl rd_val rd_key rg_of) in
/-- Is a set empty? -/
theorem SetM.empty {w : World} {b n : Nat} {S : Int → Bool} (h : SetM w b n S) (T : Nat) (hT : InS T S) (hT2 : T ≤ 1000) :
    ∃ D : DataW Unit, w.ownsMap Try.prog 3 (plainElem Try.prog 4) b n D ∧ decide (Maps.size D = 0) = emptyS T S := by
  obtain ⟨D, hD, hS⟩ := h
  refine ⟨D, hD, ?_⟩
  obtain ⟨es', hes, hpw, _⟩ := hD.entries keyed_int
  obtain ⟨es, clock, hb, F, hn, hDe⟩ := hD
  rw [hDe] at hes
  injection hes with hes
  have hk : ∀ p ∈ es', ∃ x, p.1 = .int .i64 x ∧ (Lit.int .i64 x).wf = true := by
    intro p hp
    rw [← hes] at hp
    obtain ⟨x, hx, rfl⟩ := List.mem_map.1 (mem_sorted.1 hp)
    obtain ⟨y, hy⟩ := F.reads x hx
    rw [rg_of hy]
    obtain ⟨z, _, hz, hw⟩ := Maps.keyOf_int_inv Try.underlying3 (rd_key hy)
    exact ⟨z, hz, hw⟩
  have hD' : D = .map es' := by rw [hDe, hes]
  rw [Bool.eq_iff_iff, decide_eq_true_eq, hD', Maps.size_eq]
  unfold emptyS
  rw [Bool.not_eq_true', List.any_eq_false]
  constructor
  · intro h0 i hi
    have : es' = [] := List.eq_nil_of_length_eq_zero h0
    subst this
    intro hc
    have hr := hT _ hc
    have hw : (Lit.int .i64 ((i : Int) - 1)).wf = true := WalkArith.wf_i64 (by omega)
    have := hS _ hw
    rw [hD', hc] at this
    simp [Maps.has_eq] at this
  · intro h0
    match es', hk, hD' with
    | [], _, _ => rfl
    | q :: r, hk, hD' =>
      obtain ⟨x, hx, hw⟩ := hk q (by simp)
      have hh : S x = true := by
        rw [← hS x hw, hD', Maps.has_eq, List.any_cons, hx]
        simp [Lit.sameKey]
      have hr := hT x hh
      exact absurd hh (by
        have := h0 (x + 1).toNat (List.mem_range.2 (by omega))
        have e : (((x + 1).toNat : Nat) : Int) - 1 = x := by omega
        rw [e] at this
        exact this)

/-- The element of a map's literal. -/
theorem wpList_insert_own {H : Type} {P : Program} (w : World) {ops : Array Oper} {rest : List Oper} {o : Oper} {a : Act} {Q : Exit → Act → World → Prop}
    (hg : o.guard = none) (m x v : Operand) (t : TypeId) (hop : o.op = Op.insert t m x v)
    (k e : TypeId) (K : Keyed P k) (ht : P.underlying t = some (.map k e)) (R : Value → Option (DataW H × List MemPlace)) (b n : Nat) (D : DataW H)
    (hm : a.eval m = .map (some b)) (hown : w.ownsMap P k R b n D) (hn : n < maxLen) (key val : Value) (kl : Lit) (hx : a.eval x = key) (hv : a.eval v = val) (hkey : keyOf P k key = some kl)
    (d : DataW H) (ps : List MemPlace) (hval : R val = some (d, ps))
    (hK : ∀ w', w'.ownsMap P k R b (n + 1) (D.put kl d) → w.grownBy w' (some b) → wpList P ops Q rest (a.put o.dst undef) w') :
    wpList P ops Q (o :: rest) a w := by
  refine wpList_plain hg fun K' hK' => ?_
  obtain ⟨w', hrun, r1, r2⟩ := hown.update K ht hn hkey hval
  unfold Oper.wp
  simp [execOp, hop, hm, hx, hv, hrun, Result.andThen]
  exact hK' _ _ (hK w' r1 r2)

theorem runS_nil (ts fs : List (List Int)) (p : Part) (S : Int → Bool) : runS ts fs p S [] = (S, 0) := rfl

set_option maxRecDepth 100000 in
set_option maxHeartbeats 4000000 in
theorem run_calls {w : World} {N mb : Nat} {ts fs : List (List Int)} {p : Part} {word : List Int} {F : Nat → Prop} {A : Option Addr} {c : Nat} (hM : Mac w N mb ts fs p) (hO : MOk ts fs p) (hr : intR.row w F A word) (hb : word.length ≤ 1048576 * 4) :
    Calls Try.prog 22 #[.pointer (some ⟨mb, 0, none⟩), .slice A word.length c] w fun r w' => ∃ sb, r = .returned (.tuple #[.map (some sb), .int .i64 ((runS ts fs p startS word).2 : Nat)]) ∧ SetM w' sb (ts.length + 1) (runS ts fs p startS word).1 ∧ Pure w w' := by
  have HM := As.mk hM
  have HO := As.mk hO
  have HR := As.mk hr
  have hlt0 := hO.lt
  clear hM hO hr
  have hmm := @run_makeMap Try.prog
  have hmade := World.ownsMap_made (H := Unit) w Try.prog 3 (plainElem Try.prog 4)
  have HMADE := As.mk hmade
  have HWF := As.mk (WalkArith.wf_i64 (n := (-1 : Int)) (by omega))
  clear hmade
  go_enter Try.func22, Try.ntmps22
  go_wp2_with (refine wpList_insert_own _ rfl _ _ _ 46 rfl 3 4 keyed_int Try.underlying46 _ w.heap.size 0 _ rfl HMADE.out (by unfold maxLen; omega) _ _ _ rfl rfl (Maps.keyOf_int_mk Try.underlying3 HWF.out) _ [] (plainElem_bool Try.underlying4 true) (fun w1 hown1 hg1 => As.out ?_))
  refine ⟨?_⟩
  have hset1 : SetM w1 w.heap.size (ts.length + 1) startS := by
    refine SetM.mono (n := 0 + 1) ⟨_, hown1, fun z hz => ?_⟩ (by omega)
    rw [has_put (World.ownsMap.isMap HMADE.out) _ _ _ HWF.out]
    simp [Maps.has_eq, startS]
  have hu1 : Pure w w1 := (Upd.alloc1 (fun _ => False) w (.map #[] 0)).trans (Upd.grown1 (S := fun q => q = w.heap.size) hg1 (fun q hq => by injection hq with hq; exact hq.symm)) (fun q hq h => by omega)
  have HI := As.mk (And.intro hset1 hu1)
  clear hset1 hu1 hown1 hg1
  go_wp2
  go_loopg [6, 14] word.length (fun g s i wr => ∃ (k sb : Nat) (S : Int → Bool), k + g = word.length ∧ i = .int .i64 k ∧ s = .map (some sb) ∧ As (SetM wr sb (ts.length + 1) S ∧ Pure w wr ∧ InS ts.length S ∧ runS ts fs p startS word = ((runS ts fs p S (word.drop k)).1, (runS ts fs p S (word.drop k)).2 + k)))
  case atStart => exact ⟨0, w.heap.size, startS, by omega, rfl, rfl, ⟨HI.out.1, HI.out.2, startS_in _, rfl⟩⟩
  case round =>
    obtain ⟨k, sb, S, hk, rfl, rfl, HP⟩ := hrel
    by_cases hlt : k < word.length
    · obtain ⟨x, hx⟩ : ∃ x, word[k]? = some x := ⟨_, List.getElem?_eq_getElem hlt⟩
      obtain ⟨g1, rfl⟩ : ∃ m, gk = m + 1 := ⟨gk - 1, by omega⟩
      obtain ⟨b, o, rfl, hFb, hbb, d0⟩ := int_at (Rp.row_pure HR.out HP.out.2.1) hx
      have HK := As.mk hk
      have HD := As.mk (int_drop hx)
      have HC := As.mk (step_calls (t := x) (HM.out.pure HP.out.2.1) HP.out.1 hlt0 HO.out.tl HO.out.fl (fun y _ hy => HP.out.2.2.1 y hy) HO.out.ok HO.out.len)
      clear hk hx
      go_wp2_with (go_at_call 28; refine HC.out.mono ?_; rintro e w2 ⟨ob, rfl, hs2, hu2⟩; apply As.out)
      refine ⟨?_⟩
      obtain ⟨D, hD, hemp⟩ := hs2.empty ts.length (stepS_in HO.out S x) hlt0
      have HS2 := As.mk (And.intro hs2 hu2)
      have HDD := As.mk hD
      clear hs2 hu2 hD
      cases hq : emptyS ts.length (stepS ts fs p S x)
      · have hsz : ((Maps.size D : Int) == 0) = false := by
          rw [hq] at hemp
          simpa using hemp
        have HQ := As.mk hq
        clear hemp hq
        go_wp2_with (at_len; refine wpList_len_own _ rfl _ 46 rfl 3 4 Try.underlying46 _ ob (ts.length + 1) D rfl HDD.out ?_)
        go_roundg g1
        case measure => omega
        case rel =>
          refine ⟨k + 1, ob, _, by have := HK.out; omega, by go_num, rfl, ⟨HS2.out.1, HP.out.2.1.trans HS2.out.2 (fun _ _ h => h), stepS_in HO.out S x, ?_⟩⟩
          rw [HP.out.2.2.2, HD.out, runS, if_neg (by rw [HQ.out]; simp)]
          simp only [Prod.mk.injEq, true_and]
          omega
      · have hsz : ((Maps.size D : Int) == 0) = true := by
          rw [hq] at hemp
          simpa using hemp
        have HQ := As.mk hq
        clear hemp hq
        go_wp2_with (at_len; refine wpList_len_own _ rfl _ 46 rfl 3 4 Try.underlying46 _ ob (ts.length + 1) D rfl HDD.out ?_)
        have e1 : runS ts fs p startS word = (S, k) := by
          rw [HP.out.2.2.2, HD.out, runS, if_pos HQ.out]
          simp
        go_ret2
        refine ⟨sb, ?_, ?_, HP.out.2.1.trans HS2.out.2 (fun _ _ h => h)⟩
        · rw [e1]; rfl
        · rw [e1]
          exact HP.out.1.kept HS2.out.2 (fun h => h)
    · obtain rfl : k = word.length := by omega
      have e1 : runS ts fs p startS word = (S, word.length) := by
        rw [HP.out.2.2.2, List.drop_length, runS]
        simp
      have HE := As.mk e1
      clear e1
      go_wp2
      go_ret2
      refine ⟨sb, ?_, ?_, HP.out.2.1⟩
      · rw [HE.out]; rfl
      · rw [HE.out]
        exact HP.out.1

/-- What ends a word at a place. -/
def endS (p : Part) (x : Int) : Bool := (decide (x = -1) && p.none) || (decide (x ≠ -1) && decide (x ∈ p.last))
theorem endsS_true {p : Part} {S : Int → Bool} {x : Int} (h : S x = true) (he : endS p x = true) : endsS p S = true := by
  unfold endS at he
  unfold endsS
  rw [Bool.or_eq_true] at he ⊢
  rcases he with he | he
  · simp at he
    left
    rw [← he.1, h, he.2]
    rfl
  · simp at he
    right
    exact List.any_eq_true.2 ⟨x, he.2, h⟩
theorem endsS_false {p : Part} {S : Int → Bool} (hl : ∀ a ∈ p.last, 0 ≤ a) (he : ∀ x, S x = true → endS p x = false) : endsS p S = false := by
  unfold endsS
  rw [Bool.or_eq_false_iff]
  constructor
  · cases h : S (-1)
    · rfl
    · have := he _ h
      simpa [endS] using this
  · rw [List.any_eq_false]
    intro a ha h
    have := he a h
    have h0 := hl a ha
    simp [endS, ha] at this
    omega

structure EndR (w : World) (sb n : Nat) (D : DataW Unit) (p : Part) (S : Int → Bool) (left : Lit → Bool) (g : Nat) (wr : World) : Prop where
  rg : wr.ranges Try.prog 3 (plainElem Try.prog 4) sb w.heap.size n D left g
  pure : Pure w wr
  sz : w.heap.size + 1 ≤ wr.heap.size
  no : ∀ x, (Lit.int .i64 x).wf = true → S x = true → left (.int .i64 x) = false → endS p x = false

set_option maxRecDepth 100000 in
set_option maxHeartbeats 4000000 in
theorem ends_calls {w : World} {N mb sb n : Nat} {ts fs : List (List Int)} {p : Part} {S : Int → Bool} (hM : Mac w N mb ts fs p) (hO : MOk ts fs p) (hS : SetM w sb n S) (hI : InS ts.length S) :
    Calls Try.prog 23 #[.pointer (some ⟨mb, 0, none⟩), .map (some sb)] w fun r w' => r = .returned (.bool (endsS p S)) ∧ Pure w w' := by
  have hsb := hS.lt
  have hlt0 := hO.lt
  obtain ⟨D, hD, hSD⟩ := hS
  have HD := As.mk hD
  have HSD := As.mk hSD
  have HM := As.mk hM
  have HO := As.mk hO
  have HI := As.mk hI
  have hmN := hM.1
  have hNw := hM.2.1
  have hll := hO.ll
  clear hD hSD hM hO hI
  go_enter Try.func23, Try.ntmps23
  go_wp2_with (at_range; refine wpList_range_own _ rfl _ 46 rfl 3 4 keyed_int Try.underlying46 _ sb n D rfl HD.out (fun w0 hrg0 hg0 hs0 => As.out ?_))
  refine ⟨?_⟩
  go_wp2
  go_loopg [5] (Maps.size D) (fun g kv wr => ∃ left, As (EndR w sb n D p S left g wr))
  case atStart =>
    refine ⟨Maps.has D, ⟨⟨hrg0, Upd.grown1 hg0 (fun k hk => by cases hk), by omega, fun x hx h1 h2 => ?_⟩⟩⟩
    rw [HSD.out x hx, h1] at h2
    cases h2
  case round =>
    obtain ⟨left, HR⟩ := hrel
    have invV : ∀ (v : Value) (y : DataW Unit × List MemPlace), plainElem Try.prog 4 v = some y → ∃ c : Bool, v = .bool c := by
      intro v y hv
      cases v <;> simp [plainElem, Try.underlying4] at hv
      exact ⟨_, rfl⟩
    go_wp2_with (at_next; refine wpList_next_ranges _ rfl _ rfl 3 keyed_int (plainElem Try.prog 4) (fun x : Int => Value.int .i64 x) (fun c : Bool => Value.bool c) (fun key kl hk => by obtain ⟨x, rfl, _⟩ := Maps.keyOf_int_inv Try.underlying3 hk; exact ⟨x, rfl⟩) invV sb w.heap.size n D left gk rfl HR.out.rg (fun h0 hl => As.out ?_) (fun x c kl y w2 cnt2 hkey hlk hv hat hrg2 hlt hgr hsz hen => As.out ?_))
    · refine ⟨?_⟩
      have e1 : endsS p S = false := endsS_false (fun a ha => (HO.out.last a ha).1) (fun x hx => HR.out.no x (WalkArith.wf_i64 (by have := HI.out x hx; omega)) hx (hl _))
      have HE := As.mk e1
      clear hl e1
      go_wp2
      go_ret
      exact ⟨by rw [HE.out]; rfl, HR.out.pure⟩
    · refine ⟨?_⟩
      obtain ⟨x', ex, rfl, hwx⟩ := Maps.keyOf_int_inv Try.underlying3 hkey
      cases ex
      have hSx : S x = true := by rw [← HSD.out x hwx]; exact Maps.has_true_of_atKey hat
      obtain ⟨hx0, hx1⟩ := HI.out x hSx
      have hu2 : Upd (fun k => k = w.heap.size) wr w2 := Upd.grown1 hgr (fun k hk => by injection hk with hk; exact hk.symm)
      have hp2 : Pure w w2 := HR.out.pure.trans hu2 (fun k hk h => by omega)
      have hM2 : Mac w2 N mb ts fs p := HM.out.pure hp2
      obtain ⟨_, _, At, ct, Ag, cg, Af, cf, Al, cl, hbk, hty, hfo, hfi, hla⟩ := hM2
      have m2 : w2.cell? ⟨mb, 2, none⟩ = some (.bool p.none) := by unfold World.cell?; simp only [hbk]; rfl
      have m4 : w2.cell? ⟨mb, 4, none⟩ = some (.slice Al p.last.length cl) := by unfold World.cell?; simp only [hbk]; rfl
      have HLA := As.mk hla
      have HSX := As.mk hSx
      have HRG2 := As.mk hrg2
      have HP2 := As.mk (And.intro hp2 (Nat.le_trans HR.out.sz hu2.size))
      have hnext : endS p x = false → EndR w sb n D p S (fun z => left z && !z.sameKey (.int .i64 x)) cnt2 w2 := fun he => ⟨HRG2.out, HP2.out.1, HP2.out.2, fun z hz h1 h2 => by
        by_cases hzx : z = x
        · rw [hzx]; exact he
        · refine HR.out.no z hz h1 ?_
          simpa [Lit.sameKey, hzx] using h2⟩
      have HNX := As.mk hnext
      clear hkey hlk hv hat hrg2 hgr hsz hu2 hp2 hSx hbk hty hfo hfi hla hnext
      by_cases hx : x = -1
      · subst hx
        cases hn : p.none
        · rw [hn] at m2
          go_wp2
          go_roundg cnt2
          case measure => omega
          case rel => exact ⟨_, ⟨HNX.out (by simp [endS, hn])⟩⟩
        · rw [hn] at m2
          go_wp2
          go_ret
          exact ⟨by rw [endsS_true HSX.out (by simp [endS, hn])]; rfl, HP2.out.1⟩
      · have hne : (x == -1) = false := by simpa using hx
        have hne2 : (x != -1) = true := by simpa using hx
        cases hq : decide (x ∈ p.last)
        · have HE := As.mk (show endS p x = false by simp [endS, hx]; simpa using hq)
          go_wp2_with (go_at_call 36; refine (Contains_calls x HLA.out (by omega)).mono ?_; rintro e w3 ⟨rfl, rfl⟩; rw [hq])
          go_roundg cnt2
          case measure => omega
          case rel => exact ⟨_, ⟨HNX.out HE.out⟩⟩
        · have HE := As.mk (show endS p x = true by simp [endS, hx]; simpa using hq)
          go_wp2_with (go_at_call 36; refine (Contains_calls x HLA.out (by omega)).mono ?_; rintro e w3 ⟨rfl, rfl⟩; rw [hq])
          go_ret
          exact ⟨by rw [endsS_true HSX.out HE.out]; rfl, HP2.out.1⟩
end Go.Proofs.Ytchgeaklaeoplaa
