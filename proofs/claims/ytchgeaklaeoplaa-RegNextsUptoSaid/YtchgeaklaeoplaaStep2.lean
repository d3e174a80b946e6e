/- reg.machine.step. -/
import Derived.Test.YtchgeaklaeoplaaSmall
namespace Go.Proofs.Ytchgeaklaeoplaa
open Go.RowKit
open Go.Maps (Keyed)
set_option linter.unusedVariables false
set_option linter.unusedSimpArgs false

/-- Who may come behind a place; -1: the beginning. -/
def nextsOf (fs : List (List Int)) (p : Part) (x : Int) : List Int := if x = -1 then p.first else fs.getD x.toNat []
/-- The set behind a type. -/
def stepS (ts fs : List (List Int)) (p : Part) (S : Int → Bool) (t : Int) (y : Int) : Bool :=
  (List.range (ts.length + 1)).any (fun i => S ((i : Int) - 1) && addS ts t (nextsOf fs p ((i : Int) - 1)) y)

theorem Upd.grownBy {w w1 : World} {q : Nat} (h : Upd (fun k => k = q) w w1) : w.grownBy w1 (some q) :=
  ⟨h.os, h.tape, h.output, h.size, fun k hk hne => h.block k hk (fun e => hne (by rw [e]))⟩
theorem addS_in {ts : List (List Int)} {t : Int} {l : List Int} {y : Int} (h : addS ts t l y = true) : y ∈ l := by
  unfold addS at h
  obtain ⟨a, ha, hb⟩ := List.any_eq_true.1 h
  simp at hb
  rw [← hb.1]; exact ha
/-- The set while the loop goes: what is left is not counted. -/
def leftS (ts fs : List (List Int)) (p : Part) (S : Int → Bool) (left : Lit → Bool) (t y : Int) : Bool :=
  (List.range (ts.length + 1)).any (fun i => (S ((i : Int) - 1) && !left (.int .i64 ((i : Int) - 1))) && addS ts t (nextsOf fs p ((i : Int) - 1)) y)
theorem leftS_next {ts fs : List (List Int)} {p : Part} {S : Int → Bool} {left : Lit → Bool} {t x : Int} (h0 : -1 ≤ x) (h1 : x < ts.length) (hS : S x = true) (y : Int) :
    (leftS ts fs p S left t y || addS ts t (nextsOf fs p x) y) = leftS ts fs p S (fun z => left z && !z.sameKey (.int .i64 x)) t y := by
  unfold leftS
  rw [Bool.eq_iff_iff, Bool.or_eq_true, List.any_eq_true, List.any_eq_true]
  constructor
  · rintro (⟨i, hi, h⟩ | h)
    · refine ⟨i, hi, ?_⟩
      simp only [Bool.and_eq_true, Bool.not_eq_true', Bool.and_eq_false_iff] at h ⊢
      exact ⟨⟨h.1.1, .inl h.1.2⟩, h.2⟩
    · refine ⟨(x + 1).toNat, List.mem_range.2 (by omega), ?_⟩
      have e : (((x + 1).toNat : Nat) : Int) - 1 = x := by omega
      rw [e, hS, h]
      simp [Lit.sameKey]
  · rintro ⟨i, hi, h⟩
    simp only [Bool.and_eq_true, Bool.not_eq_true', Bool.and_eq_false_iff] at h
    rcases h.1.2 with h2 | h2
    · left
      refine ⟨i, hi, ?_⟩
      simp only [Bool.and_eq_true, Bool.not_eq_true']
      exact ⟨⟨h.1.1, h2⟩, h.2⟩
    · right
      have e : (i : Int) - 1 = x := by simpa [Lit.sameKey] using h2
      rw [← e]
      exact h.2
theorem leftS_rng {ts fs : List (List Int)} {p : Part} {S : Int → Bool} {left : Lit → Bool} {t : Int} (hok : ∀ x, ∀ a ∈ nextsOf fs p x, 0 ≤ a ∧ a < ts.length) (y : Int) (h : leftS ts fs p S left t y = true) : -1 ≤ y ∧ y < ts.length := by
  unfold leftS at h
  obtain ⟨i, _, h⟩ := List.any_eq_true.1 h
  simp only [Bool.and_eq_true] at h
  have := hok _ y (addS_in h.2)
  omega
theorem stepS_rng {ts fs : List (List Int)} {p : Part} {S : Int → Bool} {t : Int} (hok : ∀ x, ∀ a ∈ nextsOf fs p x, 0 ≤ a ∧ a < ts.length) (y : Int) (h : stepS ts fs p S t y = true) : 0 ≤ y ∧ y < ts.length := by
  unfold stepS at h
  obtain ⟨i, _, h⟩ := List.any_eq_true.1 h
  simp only [Bool.and_eq_true] at h
  exact hok _ y (addS_in h.2)

/-- What holds at each round's head. -/
structure StepR (w : World) (N mb sb n : Nat) (D : DataW Unit) (ts fs : List (List Int)) (p : Part) (S : Int → Bool) (t : Int) (left : Lit → Bool) (g : Nat) (wr : World) : Prop where
  rg : wr.ranges Try.prog 3 (plainElem Try.prog 4) sb (w.heap.size + 4) n D left g
  set : SetM wr (w.heap.size + 2) (ts.length + 1) (leftS ts fs p S left t)
  pure : Pure w wr
  sz : w.heap.size + 5 ≤ wr.heap.size
  c0 : wr.cell? ⟨w.heap.size, 0, none⟩ = some (.pointer (some ⟨mb, 0, none⟩))
  c1 : wr.cell? ⟨w.heap.size + 1, 0, none⟩ = some (.int .i64 t)
  c3 : wr.cell? ⟨w.heap.size + 3, 0, none⟩ = some (.map (some (w.heap.size + 2)))
theorem StepR.next {w wr w2 w3 : World} {N mb sb n g g2 : Nat} {D : DataW Unit} {ts fs : List (List Int)} {p : Part} {S : Int → Bool} {t x : Int} {left : Lit → Bool} (h : StepR w N mb sb n D ts fs p S t left g wr)
    (hsb : sb < w.heap.size) (hok : ∀ x, ∀ a ∈ nextsOf fs p x, 0 ≤ a ∧ a < ts.length) (h0 : -1 ≤ x) (h1 : x < ts.length) (hS : S x = true) (hr : w2.ranges Try.prog 3 (plainElem Try.prog 4) sb (w.heap.size + 4) n D (fun z => left z && !z.sameKey (.int .i64 x)) g2) (hu2 : Upd (fun k => k = w.heap.size + 4) wr w2)
    (m : Nat) (hs : SetM w3 (w.heap.size + 2) m (fun y => leftS ts fs p S left t y || addS ts t (nextsOf fs p x) y)) (hu3 : Upd (fun k => k = w.heap.size + 2) w2 w3) :
    StepR w N mb sb n D ts fs p S t (fun z => left z && !z.sameKey (.int .i64 x)) g2 w3 where
  rg := hr.kept hu3.grownBy (by simp; omega) (by simp)
  set := (hs.same (fun y => leftS_next h0 h1 hS y)).small ts.length (fun y _ hy => leftS_rng hok y hy)
  pure := (h.pure.trans hu2 (fun k hk e => by omega)).trans hu3 (fun k hk e => by omega)
  sz := Nat.le_trans h.sz (Nat.le_trans hu2.size hu3.size)
  c0 := by rw [hu3.cell (by have := h.sz; have := hu2.size; omega) (by omega), hu2.cell (by have := h.sz; omega) (by omega)]; exact h.c0
  c1 := by rw [hu3.cell (by have := h.sz; have := hu2.size; omega) (by omega), hu2.cell (by have := h.sz; omega) (by omega)]; exact h.c1
  c3 := by rw [hu3.cell (by have := h.sz; have := hu2.size; omega) (by omega), hu2.cell (by have := h.sz; omega) (by omega)]; exact h.c3

set_option maxRecDepth 100000 in
set_option maxHeartbeats 4000000 in
theorem step_calls {w : World} {N mb sb n : Nat} {ts fs : List (List Int)} {p : Part} {t : Int} {S : Int → Bool} (hM : Mac w N mb ts fs p) (hS : SetM w sb n S) (hts : ts.length ≤ 1000) (htl : ∀ x ∈ ts, x.length ≤ 1048576) (hfl : fs.length = ts.length)
    (hrg : ∀ x, (Lit.int .i64 x).wf = true → S x = true → -1 ≤ x ∧ x < ts.length) (hok : ∀ x, ∀ a ∈ nextsOf fs p x, 0 ≤ a ∧ a < ts.length) (hlen : ∀ x, (nextsOf fs p x).length ≤ 1048576 * 1000) :
    Calls Try.prog 28 #[.pointer (some ⟨mb, 0, none⟩), .map (some sb), .int .i64 t] w fun r w' => ∃ ob, r = .returned (.map (some ob)) ∧ SetM w' ob (ts.length + 1) (stepS ts fs p S t) ∧ Pure w w' := by
  have hsb := hS.lt
  obtain ⟨D, hD, hSD⟩ := hS
  have HD := As.mk hD
  have HSD := As.mk hSD
  have HM0 := As.mk hM
  have HOK := As.mk hok
  have HLN := As.mk hlen
  have HTL := As.mk htl
  have HRG0 := As.mk hrg
  have hmN := hM.1
  have hNw := hM.2.1
  clear hD hSD hM hok hlen htl hrg
  have hmm := @run_makeMap Try.prog
  go_enter Try.func28, Try.ntmps28
  go_wp2_with (at_range; refine wpList_range_own _ rfl _ 46 rfl 3 4 keyed_int Try.underlying46 _ sb n D rfl (((HD.out.alloc _).alloc _).alloc _ |>.alloc _) ?_; intro w0 hrg0 hg0 hs0; apply As.out)
  refine ⟨?_⟩
  go_wp2
  have hb4 : ((((w.alloc (.cells #[.pointer (some ⟨mb, 0, none⟩)] 43)).alloc (.cells #[.int .i64 t] 3)).alloc (.map #[] 0)).alloc (.cells #[.map (some (w.heap.size + 1 + 1))] 46)).heap.size = w.heap.size + 4 := by simp
  go_loopg [9] (Maps.size D) (fun g kv wr => ∃ left, As (StepR w N mb sb n D ts fs p S t left g wr))
  case atStart =>
    have hp4 : Pure ((((w.alloc (.cells #[.pointer (some ⟨mb, 0, none⟩)] 43)).alloc (.cells #[.int .i64 t] 3)).alloc (.map #[] 0)).alloc (.cells #[.map (some (w.heap.size + 1 + 1))] 46)) w0 := Upd.grown1 hg0 (fun k hk => by cases hk)
    have hw4 : Pure w ((((w.alloc (.cells #[.pointer (some ⟨mb, 0, none⟩)] 43)).alloc (.cells #[.int .i64 t] 3)).alloc (.map #[] 0)).alloc (.cells #[.map (some (w.heap.size + 1 + 1))] 46)) := (((Upd.alloc1 _ _ _).alloc _).alloc _).alloc _
    have hmade := SetM.made ((w.alloc (.cells #[.pointer (some ⟨mb, 0, none⟩)] 43)).alloc (.cells #[.int .i64 t] 3))
    have e2 : ((w.alloc (.cells #[.pointer (some ⟨mb, 0, none⟩)] 43)).alloc (.cells #[.int .i64 t] 3)).heap.size = w.heap.size + 2 := by simp
    rw [e2] at hmade
    refine ⟨Maps.has D, ⟨⟨by rw [← hb4]; exact hrg0, ?_, hw4.trans hp4 (fun _ _ h => h), by rw [hs0, hb4]; omega, ?_, ?_, ?_⟩⟩⟩
    · refine ((hmade.kept (R := fun _ => False) ((Upd.alloc1 _ _ _).trans hp4 (fun _ _ h => h)) (fun h => h))).mono (Nat.zero_le _) |>.same (fun y => ?_)
      unfold leftS
      rw [eq_comm, List.any_eq_false]
      intro i hi
      have hlt := List.mem_range.1 hi
      rw [HSD.out _ (WalkArith.wf_i64 (by omega))]
      simp
    · refine (hp4.cell (by simp; try omega) (fun h => h)).trans ?_
      have hh := (Below.heap_alloc (((w.alloc (.cells #[.pointer (some ⟨mb, 0, none⟩)] 43)).alloc (.cells #[.int .i64 t] 3)).alloc (.map #[] 0)) (.cells #[.map (some (w.heap.size + 1 + 1))] 46) w.heap.size (by simp; try omega)).trans ((Below.heap_alloc _ _ _ (by simp; try omega)).trans ((Below.heap_alloc _ _ _ (by simp)).trans (heap_alloc_new w _)))
      unfold World.cell?; simp only [hh]; rfl
    · refine (hp4.cell (by simp; try omega) (fun h => h)).trans ?_
      have hh := (Below.heap_alloc (((w.alloc (.cells #[.pointer (some ⟨mb, 0, none⟩)] 43)).alloc (.cells #[.int .i64 t] 3)).alloc (.map #[] 0)) (.cells #[.map (some (w.heap.size + 1 + 1))] 46) (w.heap.size + 1) (by simp; try omega)).trans ((Below.heap_alloc _ _ _ (by simp)).trans (heap_alloc2_new w _ _))
      unfold World.cell?; simp only [hh]; rfl
    · refine (hp4.cell (by simp; try omega) (fun h => h)).trans ?_
      have hh := heap_alloc_new (((w.alloc (.cells #[.pointer (some ⟨mb, 0, none⟩)] 43)).alloc (.cells #[.int .i64 t] 3)).alloc (.map #[] 0)) (.cells #[.map (some (w.heap.size + 1 + 1))] 46)
      rw [show (((w.alloc (.cells #[.pointer (some ⟨mb, 0, none⟩)] 43)).alloc (.cells #[.int .i64 t] 3)).alloc (.map #[] 0)).heap.size = w.heap.size + 3 by simp] at hh
      unfold World.cell?; simp only [hh]; rfl
  case round =>
    obtain ⟨left, HR⟩ := hrel
    have invV : ∀ (v : Value) (y : DataW Unit × List MemPlace), plainElem Try.prog 4 v = some y → ∃ c : Bool, v = .bool c := by
      intro v y hv
      cases v <;> simp [plainElem, Try.underlying4] at hv
      exact ⟨_, rfl⟩
    go_wp2_with (at_next; refine wpList_next_ranges _ rfl _ rfl 3 keyed_int (plainElem Try.prog 4) (fun x : Int => Value.int .i64 x) (fun c : Bool => Value.bool c) (fun key kl hk => by obtain ⟨x, rfl, _⟩ := Maps.keyOf_int_inv Try.underlying3 hk; exact ⟨x, rfl⟩) invV sb (w.heap.size + 4) n D left gk rfl HR.out.rg (fun h0 hl => As.out ?_) (fun x c kl y w2 cnt2 hkey hlk hv hat hrg2 hlt hgr hsz hen => As.out ?_))
    · refine ⟨?_⟩
      have HLF := As.mk hl
      have c3 := HR.out.c3
      clear hl
      go_wp2
      go_ret
      refine ⟨w.heap.size + 2, rfl, HR.out.set.same (fun y => by simp [stepS, leftS, HLF.out]), HR.out.pure⟩
    · refine ⟨?_⟩
      obtain ⟨x', ex, rfl, hwx⟩ := Maps.keyOf_int_inv Try.underlying3 hkey
      cases ex
      have hSx : S x = true := by rw [← HSD.out x hwx]; exact Maps.has_true_of_atKey hat
      obtain ⟨hx0, hx1⟩ := HRG0.out x hwx hSx
      have hu2 : Upd (fun k => k = w.heap.size + 4) wr w2 := Upd.grown1 hgr (fun k hk => by injection hk with hk; exact hk.symm)
      have hM2 : Mac w2 N mb ts fs p := ((HM0.out.pure HR.out.pure).upd hu2 (fun k hk => by omega))
      have c0 : w2.cell? ⟨w.heap.size, 0, none⟩ = some (.pointer (some ⟨mb, 0, none⟩)) := (hu2.cell (by have := HR.out.sz; omega) (by omega)).trans HR.out.c0
      have c1 : w2.cell? ⟨w.heap.size + 1, 0, none⟩ = some (.int .i64 t) := (hu2.cell (by have := HR.out.sz; omega) (by omega)).trans HR.out.c1
      have c3 : w2.cell? ⟨w.heap.size + 3, 0, none⟩ = some (.map (some (w.heap.size + 2))) := (hu2.cell (by have := HR.out.sz; omega) (by omega)).trans HR.out.c3
      have hset2 : SetM w2 (w.heap.size + 2) (ts.length + 1) (leftS ts fs p S left t) := HR.out.set.kept hu2 (by omega)
      have hsz2 : w.heap.size + 5 ≤ w2.heap.size := Nat.le_trans HR.out.sz hu2.size
      have hlx := HLN.out x
      have HSX := As.mk hSx
      have HRG2 := As.mk hrg2
      have HU2 := As.mk hu2
      have HEN := As.mk hen
      have hADD := fun (A : Option Addr) (cc : Nat) (hrow : intR.row w2 (fun k => k < N) A (nextsOf fs p x)) => add_calls (c := cc) hM2 (by omega : N ≤ w.heap.size + 2) c0 c1 c3 (by omega) (by omega) (by omega) (by omega) hset2 hrow (fun _ h => h) (HOK.out x) hlx (by omega) HTL.out (by omega)
      have HADD := As.mk hADD
      obtain ⟨_, _, At, ct, Ag, cg, Af, cf, Al, cl, hbk, hty, hfo, hfi, hla⟩ := hM2
      clear hkey hlk hv hat hrg2 hgr hsz hu2 hset2 hADD hSx
      by_cases hx : x = -1
      · subst hx
        have hnx : nextsOf fs p (-1) = p.first := rfl
        have m3 : w2.cell? ⟨mb, 3, none⟩ = some (.slice Af p.first.length cf) := by unfold World.cell?; simp only [hbk]; rfl
        have HA2 := As.mk (HADD.out Af cf (by rw [hnx]; exact hfi))
        rw [hnx] at HA2
        clear HADD hbk hty hfo hfi hla
        go_wp2_with (go_at_call 44; refine HA2.out.mono ?_; rintro e w3 ⟨rfl, hs3, hu3⟩)
        go_roundg cnt2
        case measure => omega
        case rel => exact ⟨_, ⟨HR.out.next hsb HOK.out hx0 hx1 HSX.out HRG2.out HU2.out _ hs3 hu3⟩⟩
      · obtain ⟨a, rfl⟩ : ∃ a : Nat, x = a := ⟨x.toNat, by omega⟩
        obtain ⟨y, hy⟩ : ∃ y, fs[a]? = some y := ⟨_, List.getElem?_eq_getElem (by omega)⟩
        have hnx : nextsOf fs p (a : Int) = y := by
          unfold nextsOf
          rw [if_neg hx]
          simp [List.getD, hy]
        have hne : ((a : Int) == -1) = false := by simp
        have ha1 : (a : Int) < (fs.length : Int) := by omega
        have m1 : w2.cell? ⟨mb, 1, none⟩ = some (.slice Ag fs.length cg) := by unfold World.cell?; simp only [hbk]; rfl
        obtain ⟨tb, to1, A1, c1', rfl, htb, d1, hyr⟩ := tyrow_at hfo hy
        have HA2 := As.mk (HADD.out A1 c1' (by rw [hnx]; exact hyr))
        have HNX := As.mk hnx
        rw [hnx] at HA2
        clear HADD hbk hty hfo hfi hla hx hy hyr hnx
        go_wp2_with (go_at_call 44; refine HA2.out.mono ?_; rintro e w3 ⟨rfl, hs3, hu3⟩)
        go_roundg cnt2
        case measure => omega
        case rel => exact ⟨_, ⟨HR.out.next hsb HOK.out hx0 hx1 HSX.out HRG2.out HU2.out _ (by rw [HNX.out]; exact hs3) hu3⟩⟩
end Go.Proofs.Ytchgeaklaeoplaa
