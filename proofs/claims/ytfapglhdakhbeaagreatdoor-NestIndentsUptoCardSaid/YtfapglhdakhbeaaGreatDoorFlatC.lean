/- Tokens: how they lie in memory. mark.Right, flat.Right. flat.Check: what it tells. -/
import Derived.Test.YtfapglhdakhbeaaGreatDoorBase
import Derived.Test.YtfapglhdakhbeaaGreatDoorProg
import Derived.Laws.Shifts
import Derived.Laws.BitsAll
namespace Go.Proofs.YtfapglhdakhbeaaGreatDoor
open Go.RowKit
set_option linter.unusedVariables false
set_option linter.unusedSimpArgs false

structure Tok where
  k : Int
  t : Int
  n : Int
  m : Int
deriving DecidableEq
abbrev Tok.cs (x : Tok) : List Value := [.int .i64 x.k, .int .i64 x.t, .int .i64 x.n, .int .i64 x.m]
abbrev Tok.val (x : Tok) : Value := .agg #[.int .i64 x.k, .int .i64 x.t, .int .i64 x.n, .int .i64 x.m]
def tokR : Rp Tok where
  sz := 4
  rep := fun _ _ x cs => cs = x.cs
  len := fun h => by rw [h]; rfl
  one := fun h u hu => by
    rw [h] at hu
    simp [Tok.cs] at hu
    rcases hu with rfl | rfl | rfl | rfl <;> rfl
  move := fun _ h => h

/-- A token of a row that is read. -/
theorem tok_at {w : World} {F : Nat → Prop} {A : Option Addr} {xs : List Tok} (h : tokR.row w F A xs) {j : Nat} {x : Tok} (hx : xs[j]? = some x) :
    ∃ b o, A = some ⟨b, o, none⟩ ∧ F b ∧ b < w.heap.size ∧ w.cell? ⟨b, o + j * 4, none⟩ = some (.int .i64 x.k) ∧ w.cell? ⟨b, o + j * 4 + 1, none⟩ = some (.int .i64 x.t) ∧ w.cell? ⟨b, o + j * 4 + 2, none⟩ = some (.int .i64 x.n) ∧ w.cell? ⟨b, o + j * 4 + 3, none⟩ = some (.int .i64 x.m) := by
  obtain ⟨b, o, cs, hA, hF, hb, hr, hc⟩ := Rp.row_at h hx
  have hr' : cs = x.cs := hr
  subst hr'
  exact ⟨b, o, hA, hF, hb, hc 0 _ rfl, hc 1 _ rfl, hc 2 _ rfl, hc 3 _ rfl⟩

theorem tok_info : (Tryz.prog.info? 71).map (fun i => (i.zero, i.size, i.bytes)) = some (some (.agg #[.int .i64 0, .int .i64 0, .int .i64 0, .int .i64 0]), 4, 32) := by kernel_rfl

theorem ret_bool {a b : Bool} (h : a = b) : Ending.returned (.bool a) = .returned (.bool b) := by rw [h]

def MarkP (s : Int) : Prop := 0 ≤ s ∧ s ≤ 4
instance (s : Int) : Decidable (MarkP s) := by unfold MarkP; infer_instance
def PointP (n : Int) : Prop := 0 ≤ n ∧ n ≤ 1114111 ∧ n / 2048 ≠ 27
instance (n : Int) : Decidable (PointP n) := by unfold PointP; infer_instance
/-- A token that is one. -/
def RightP (x : Tok) : Prop :=
  (x.k = 0 ∧ x.t = 0 ∧ PointP x.n ∧ MarkP x.m) ∨ (x.k = 2 ∧ x.t = 0 ∧ x.n = 0 ∧ x.m = 0) ∨ ((x.k = 1 ∨ x.k = 3) ∧ 0 < x.t ∧ x.t < 16 ∧ 0 ≤ x.n ∧ x.n < 16 ∧ x.m = 0)
instance (x : Tok) : Decidable (RightP x) := by unfold RightP; infer_instance
def markB (s : Int) : Bool := decide (MarkP s)
def pointB (n : Int) : Bool := decide (PointP n)
def rightB (x : Tok) : Bool := decide (RightP x)

theorem drop_cons {α : Type} {l : List α} {k : Nat} {x : α} (h : l[k]? = some x) : l.drop k = x :: l.drop (k + 1) := by
  obtain ⟨hk, he⟩ := List.getElem?_eq_some_iff.1 h
  rw [List.drop_eq_getElem_cons hk, he]
end Go.Proofs.YtfapglhdakhbeaaGreatDoor
namespace Go.Proofs.YtfapglhdakhbeaaGreatDoor
open Go.RowKit
set_option linter.unusedVariables false
set_option linter.unusedSimpArgs false

set_option maxRecDepth 100000 in
set_option maxHeartbeats 4000000 in
theorem markRight_calls (s : Int) (w : World) : Calls Tryz.prog 155 #[.int .i64 s] w fun e w' => e = .returned (.bool (markB s)) ∧ w = w' := by
  go_enter Tryz.func155, Tryz.ntmps155
  go_wp2
  all_goals go_ret
  all_goals exact ⟨ret_bool (by rw [Bool.eq_iff_iff]; (try simp only [markB, decide_eq_true_eq, Bool.and_eq_true, Bool.or_eq_true, Bool.not_eq_true', Bool.not_eq_eq_eq_not, Bool.not_true, Bool.not_false, beq_iff_eq, bne_iff_ne, beq_eq_false_iff_ne, bne_eq_false_iff_eq, decide_eq_false_iff_not, Bool.false_eq_true, Bool.true_eq_false, ne_eq, iff_true, true_iff, iff_false, false_iff, eq_self_iff_true, Bool.and_true, Bool.true_and, Bool.and_false, Bool.false_and, Bool.or_true, Bool.true_or, Bool.or_false, Bool.false_or] at *); all_goals (try simp only [MarkP, decide_eq_true_eq, Bool.and_eq_true, Bool.or_eq_true, Bool.not_eq_true', Bool.not_eq_eq_eq_not, Bool.not_true, Bool.not_false, beq_iff_eq, bne_iff_ne, beq_eq_false_iff_ne, bne_eq_false_iff_eq, decide_eq_false_iff_not, Bool.false_eq_true, Bool.true_eq_false, ne_eq, iff_true, true_iff, iff_false, false_iff, eq_self_iff_true, Bool.and_true, Bool.true_and, Bool.and_false, Bool.false_and, Bool.or_true, Bool.true_or, Bool.or_false, Bool.false_or] at *); all_goals omega), rfl⟩

set_option maxRecDepth 100000 in
set_option maxHeartbeats 4000000 in
theorem flatRight_calls (x : Tok) (w : World) : Calls Tryz.prog 107 #[x.val] w fun e w' => e = .returned (.bool (rightB x)) ∧ Pure w w' := by
  go_enter Tryz.func107, Tryz.ntmps107
  go_wp2_with (go_at_call 155; refine (markRight_calls _ _).mono ?_; rintro e w1 ⟨rfl, rfl⟩)
  all_goals go_ret
  all_goals exact ⟨ret_bool (by rw [Bool.eq_iff_iff]; (try simp only [rightB, markB, decide_eq_true_eq, Bool.and_eq_true, Bool.or_eq_true, Bool.not_eq_true', Bool.not_eq_eq_eq_not, Bool.not_true, Bool.not_false, beq_iff_eq, bne_iff_ne, beq_eq_false_iff_ne, bne_eq_false_iff_eq, decide_eq_false_iff_not, Bool.false_eq_true, Bool.true_eq_false, ne_eq, iff_true, true_iff, iff_false, false_iff, eq_self_iff_true, Bool.and_true, Bool.true_and, Bool.and_false, Bool.false_and, Bool.or_true, Bool.true_or, Bool.or_false, Bool.false_or] at *); all_goals (try simp only [RightP, MarkP, PointP, decide_eq_true_eq, Bool.and_eq_true, Bool.or_eq_true, Bool.not_eq_true', Bool.not_eq_eq_eq_not, Bool.not_true, Bool.not_false, beq_iff_eq, bne_iff_ne, beq_eq_false_iff_ne, bne_eq_false_iff_eq, decide_eq_false_iff_not, Bool.false_eq_true, Bool.true_eq_false, ne_eq, iff_true, true_iff, iff_false, false_iff, eq_self_iff_true, Bool.and_true, Bool.true_and, Bool.and_false, Bool.false_and, Bool.or_true, Bool.true_or, Bool.or_false, Bool.false_or] at *); all_goals omega), (Upd.refl _ _).alloc _⟩

theorem flatRight_is {x : Tok} {b : Bool} (h : rightB x = b) (w : World) : Calls Tryz.prog 107 #[x.val] w fun e w' => e = .returned (.bool b) ∧ Pure w w' := h ▸ flatRight_calls x w
end Go.Proofs.YtfapglhdakhbeaaGreatDoor
namespace Go.Proofs.YtfapglhdakhbeaaGreatDoor
open Go.RowKit
set_option linter.unusedVariables false
set_option linter.unusedSimpArgs false

/-- P4.1: the place and the number of what is wrong. -/
def fcGo : Nat → Nat → List Tok → Int × Int
  | i, n, [] => (i, if n = 0 then 0 else 3)
  | i, n, t :: r => if rightB t = false ∨ (t.k = 2 ∧ n = 0) then (i, 4) else if t.k = 1 then (if n = 32 then (i, 8) else fcGo (i + 1) (n + 1) r) else if t.k = 2 then fcGo (i + 1) (n - 1) r else fcGo (i + 1) n r
def flatCheck (l : List Tok) : Int × Int := if l.length > 2048 then (0, 2) else fcGo 0 0 l

/-- What the call has of its own: the places of what is open. -/
def FcRel (w wr : World) (l : List Tok) (k n : Nat) : Prop :=
  fcGo k n (l.drop k) = flatCheck l ∧ Pure w wr ∧ w.heap.size < wr.heap.size ∧ ∃ cs, cs.size = 32 ∧ wr.heap[w.heap.size]? = some (.cells cs 181)

theorem FcRel.upd {w wr w1 : World} {l : List Tok} {k n' : Nat} (h : As (Pure w wr)) (hz : w.heap.size < wr.heap.size) {cs : Array Value} (hc : cs.size = 32) (hb : As (wr.heap[w.heap.size]? = some (.cells cs 181))) (hu : Pure wr w1) (he : fcGo (k + 1) n' (l.drop (k + 1)) = flatCheck l) : FcRel w w1 l (k + 1) n' :=
  ⟨he, h.out.trans hu (fun _ _ h => h), Nat.lt_of_lt_of_le hz hu.size, cs, hc, by rw [hu.block _ hz (fun h => h)]; exact hb.out⟩

theorem FcRel.set {w wr w1 : World} {l : List Tok} {k n n' : Nat} {u : Value} (h : As (Pure w wr)) (hz : w.heap.size < wr.heap.size) {cs : Array Value} (hc : cs.size = 32) (hb : As (wr.heap[w.heap.size]? = some (.cells cs 181))) (hu : Pure wr w1) (he : fcGo (k + 1) n' (l.drop (k + 1)) = flatCheck l) : FcRel w (w1.setCell ⟨w.heap.size, n, none⟩ u) l (k + 1) n' :=
  ⟨he, (h.out.trans hu (fun _ _ h => h)).setCell (p := ⟨w.heap.size, n, none⟩) (fun h => absurd h (Nat.lt_irrefl _)) u, by simpa [World.setCell] using Nat.lt_of_lt_of_le hz hu.size, cs.setIfInBounds n u, by simpa using hc, by
    have := hu.block _ hz (fun h => h)
    simp [World.setCell, Array.getElem?_modify, this, hb.out]⟩

set_option maxRecDepth 100000 in
set_option maxHeartbeats 4000000 in
theorem Check_calls {F : Nat → Prop} {A : Option Addr} {c : Nat} {l : List Tok} {w : World} (hr : tokR.row w F A l) (hb : l.length ≤ 1048576 * 4) :
    Calls Tryz.prog 69 #[.slice A l.length c] w fun e w' => e = .returned (.tuple #[.int .i64 (flatCheck l).1, .int .i64 (flatCheck l).2]) ∧ Pure w w' := by
  by_cases hbig : l.length > 2048
  · have he : flatCheck l = (0, 2) := by unfold flatCheck; rw [if_pos hbig]
    rw [he]
    have hgt : ((l.length : Int) > 2048) := by omega
    clear hbig
    go_enter Tryz.func69, Tryz.ntmps69
    go_wp2
    go_ret2
    exact ⟨rfl, Upd.refl _ _⟩
  · have he : fcGo 0 0 l = flatCheck l := by unfold flatCheck; rw [if_neg hbig]
    have HR := As.mk hr
    have HE := As.mk he
    have hgt : ¬ ((l.length : Int) > 2048) := by omega
    clear hr he
    go_enter Tryz.func69, Tryz.ntmps69
    go_wp2
    go_loopg [5, 13] l.length (fun g op i wr => ∃ k n : Nat, k + g = l.length ∧ i = .int .i64 k ∧ op = .int .i64 n ∧ n ≤ 32 ∧ As (FcRel w wr l k n))
    case atStart => exact ⟨0, 0, by omega, rfl, rfl, by omega, ⟨HE.out, (Upd.refl _ _).alloc _, by simp, _, by simp, heap_alloc_new w _⟩⟩
    case round =>
      obtain ⟨k, n, hk, rfl, rfl, hn, HC⟩ := hrel
      obtain ⟨heq, hp, hsz, cs, hcs, hblk⟩ := HC.out
      by_cases hlt : k < l.length
      · obtain ⟨x, hx⟩ : ∃ x, l[k]? = some x := ⟨_, List.getElem?_eq_getElem hlt⟩
        obtain ⟨b, o, rfl, hF, hbl, c0, c1, c2, c3⟩ := tok_at (Rp.row_pure HR.out hp) hx
        obtain ⟨g1, rfl⟩ : ∃ m, gk = m + 1 := ⟨gk - 1, by omega⟩
        rw [drop_cons hx] at heq
        have HE2 := As.mk heq
        have HP := As.mk hp
        have HB := As.mk hblk
        have HK := As.mk hk
        clear heq hp hblk hk hx HC HE
        cases hr : rightB x
        · have HV := As.mk (show ((k : Int), (4 : Int)) = flatCheck l by rw [← HE2.out]; simp [fcGo, hr])
          clear HE2
          go_wp2_with (go_at_call 107; refine (flatRight_is hr _).mono ?_; rintro e w1 ⟨rfl, hu1⟩; have HU1 := As.mk hu1; obtain ⟨oc, of⟩ := hu1.olds; have hz1 := hu1.size; clear hu1)
          go_ret2
          rw [← HV.out]
          exact ⟨rfl, HP.out.trans (Upd.trans (Upd.alloc1 _ _ _) HU1.out (fun _ _ h => h)) (fun _ _ h => h)⟩
        · by_cases h2 : x.k = 2
          · have e2 : (x.k == 2) = true := by simp [h2]
            have e1 : (x.k == 1) = false := by simp [h2]
            by_cases h0 : n = 0
            · have HV := As.mk (show ((k : Int), (4 : Int)) = flatCheck l by rw [← HE2.out]; simp [fcGo, hr, h2, h0])
              subst h0
              clear HE2 h2
              go_wp2_with (go_at_call 107; refine (flatRight_is hr _).mono ?_; rintro e w1 ⟨rfl, hu1⟩; have HU1 := As.mk hu1; obtain ⟨oc, of⟩ := hu1.olds; have hz1 := hu1.size; clear hu1)
              go_ret2
              rw [← HV.out]
              exact ⟨rfl, HP.out.trans (Upd.trans (Upd.alloc1 _ _ _) HU1.out (fun _ _ h => h)) (fun _ _ h => h)⟩
            · have e0 : ((n : Int) == 0) = false := by simp; omega
              have HV := As.mk (show fcGo (k + 1) (n - 1) (l.drop (k + 1)) = flatCheck l by rw [← HE2.out]; simp [fcGo, hr, h2, h0])
              have hn1 : 1 ≤ n := by omega
              clear HE2 h2 h0
              go_wp2_with (go_at_call 107; refine (flatRight_is hr _).mono ?_; rintro e w1 ⟨rfl, hu1⟩; have HU1 := As.mk hu1; obtain ⟨oc, of⟩ := hu1.olds; have hz1 := hu1.size; clear hu1)
              go_roundg g1
              case measure => omega
              case rel => exact ⟨k + 1, n - 1, by have := HK.out; omega, by go_num, by first | rfl | go_num | (congr 1; omega), by omega, ⟨FcRel.upd HP hsz hcs HB (Upd.trans (Upd.alloc1 _ _ _) HU1.out (fun _ _ h => h)) HV.out⟩⟩
          · have e2 : (x.k == 2) = false := by simp [h2]
            by_cases h1 : x.k = 1
            · have e1 : (x.k == 1) = true := by simp [h1]
              by_cases h32 : n = 32
              · have HV := As.mk (show ((k : Int), (8 : Int)) = flatCheck l by rw [← HE2.out]; simp [fcGo, hr, h1, h32])
                subst h32
                clear HE2 h2 h1
                go_wp2_with (go_at_call 107; refine (flatRight_is hr _).mono ?_; rintro e w1 ⟨rfl, hu1⟩; have HU1 := As.mk hu1; obtain ⟨oc, of⟩ := hu1.olds; have hz1 := hu1.size; clear hu1)
                go_ret2
                rw [← HV.out]
                exact ⟨rfl, HP.out.trans (Upd.trans (Upd.alloc1 _ _ _) HU1.out (fun _ _ h => h)) (fun _ _ h => h)⟩
              · have e0 : ((n : Int) == 32) = false := by simp; omega
                have HV := As.mk (show fcGo (k + 1) (n + 1) (l.drop (k + 1)) = flatCheck l by rw [← HE2.out]; simp [fcGo, hr, h1, h32])
                have hn1 : n < 32 := by omega
                obtain ⟨u, hu⟩ : ∃ u, cs[n]? = some u := ⟨_, Array.getElem?_eq_getElem (by omega)⟩
                have q1 : wr.cell? ⟨w.heap.size, n, none⟩ = some u := by simp [World.cell?, HB.out, hu]
                have q2 : wr.frozen? ⟨w.heap.size, n, none⟩ = false := by simp [World.frozen?, HB.out]
                clear HE2 h2 h1 h32
                go_wp2_with (go_at_call 107; refine (flatRight_is hr _).mono ?_; rintro e w1 ⟨rfl, hu1⟩; have HU1 := As.mk hu1; obtain ⟨oc, of⟩ := hu1.olds; have hz1 := hu1.size; clear hu1)
                go_roundg g1
                case measure => omega
                case rel => exact ⟨k + 1, n + 1, by have := HK.out; omega, by go_num, by first | rfl | go_num | (congr 1; omega), by omega, ⟨FcRel.set HP hsz hcs HB (Upd.trans (Upd.alloc1 _ _ _) HU1.out (fun _ _ h => h)) HV.out⟩⟩
            · have e1 : (x.k == 1) = false := by simp [h1]
              have HV := As.mk (show fcGo (k + 1) n (l.drop (k + 1)) = flatCheck l by rw [← HE2.out]; simp [fcGo, hr, h1, h2])
              clear HE2 h2 h1
              go_wp2_with (go_at_call 107; refine (flatRight_is hr _).mono ?_; rintro e w1 ⟨rfl, hu1⟩; have HU1 := As.mk hu1; obtain ⟨oc, of⟩ := hu1.olds; have hz1 := hu1.size; clear hu1)
              go_roundg g1
              case measure => omega
              case rel => exact ⟨k + 1, n, by have := HK.out; omega, by go_num, rfl, by omega, ⟨FcRel.upd HP hsz hcs HB (Upd.trans (Upd.alloc1 _ _ _) HU1.out (fun _ _ h => h)) HV.out⟩⟩
      · have hkl : k = l.length := by omega
        subst hkl
        rw [List.drop_length] at heq
        have HE2 := As.mk heq
        have HP := As.mk hp
        clear heq hp hblk HC HE
        by_cases h0 : n = 0
        · have HV := As.mk (show ((l.length : Int), (0 : Int)) = flatCheck l by rw [← HE2.out]; simp [fcGo, h0])
          subst h0
          go_wp2
          go_ret2
          rw [← HV.out]
          exact ⟨rfl, HP.out⟩
        · have HV := As.mk (show ((l.length : Int), (3 : Int)) = flatCheck l by rw [← HE2.out]; simp [fcGo, h0])
          have h1 : ((n : Int) > 0) := by omega
          go_wp2
          go_ret2
          rw [← HV.out]
          exact ⟨rfl, HP.out⟩
end Go.Proofs.YtfapglhdakhbeaaGreatDoor
