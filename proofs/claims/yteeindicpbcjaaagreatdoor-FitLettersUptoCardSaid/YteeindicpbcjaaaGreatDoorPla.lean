/- fit.Plain, mark.Within and their references: what they tell. -/
import Derived.Test.YteeindicpbcjaaaGreatDoorClo
import Derived.Test.YteeindicpbcjaaaGreatDoorNames
namespace Go.Proofs.YteeindicpbcjaaaGreatDoor
open Go.RowKit
set_option linter.unusedVariables false
set_option linter.unusedSimpArgs false

/-- Those marks of a set that others have. -/
def within (s m : Int) : Int := if markB s = true then bits .and .i64 s m else 0

set_option maxRecDepth 100000 in
set_option maxHeartbeats 4000000 in
theorem Within_calls (s m : Int) (w : World) : Calls Tryz.prog 148 #[.int .i64 s, .int .i64 m] w fun e w' => e = .returned (.int .i64 (within s m)) ∧ w = w' := by
  unfold within
  by_cases h : markB s = true
  · rw [if_pos h]
    go_enter Tryz.func148, Tryz.ntmps148
    go_wp2_with (go_at_call 73; refine (markRight_calls _ _).mono ?_; rintro e w1 ⟨rfl, rfl⟩)
    go_ret
    exact ⟨rfl, rfl⟩
  · rw [if_neg h]
    have h' : markB s = false := by simpa using h
    clear h
    go_enter Tryz.func148, Tryz.ntmps148
    go_wp2_with (go_at_call 73; refine (markRight_calls _ _).mono ?_; rintro e w1 ⟨rfl, rfl⟩)
    go_ret
    exact ⟨rfl, rfl⟩

def plainOk (s : Spec) (x : Tok) : Bool := decide (x.k = 0) && rightB x && (decide (x.n ≠ 10) || s.lines)
def plainTok (s : Spec) (x : Tok) : Tok := { x with m := within x.m s.marks }
def plain (l : List Tok) (s : Spec) : List Tok := (l.filter (plainOk s)).map (plainTok s)

theorem plain_take {l : List Tok} {s : Spec} {k : Nat} {x : Tok} (hx : l[k]? = some x) : plain (l.take (k + 1)) s = plain (l.take k) s ++ if plainOk s x then [plainTok s x] else [] := by
  unfold plain
  rw [List.take_add_one, hx, List.filter_append, List.map_append]
  congr 1
  by_cases h : plainOk s x = true <;> simp [List.filter, h]
theorem plain_len (l : List Tok) (s : Spec) : (plain l s).length ≤ l.length := by
  unfold plain
  rw [List.length_map]
  exact List.length_filter_le _ _

def PlainRel (w wr : World) (l : List Tok) (s : Spec) (k : Nat) (v : Value) : Prop :=
  tokR.own 40 wr (fun k => w.heap.size < k) v (plain (l.take k) s) ∧ Pure w wr ∧ w.heap.size < wr.heap.size ∧
    wr.heap[w.heap.size]? = some (.cells #[.string s.name, .string s.expr, .bool s.leaf, .int .i64 s.marks, .int .i64 s.least, .int .i64 s.most, .bool s.lines] 59)

/-- A token that is passed over. -/
theorem PlainRel.skip {w wr w1 : World} {l : List Tok} {s : Spec} {k : Nat} {v : Value} {x : Tok} (ht : plain (l.take (k + 1)) s = plain (l.take k) s ++ if plainOk s x then [plainTok s x] else []) (hn : plainOk s x = false)
    (ho : tokR.own 40 wr (fun k => w.heap.size < k) v (plain (l.take k) s)) (hp : Pure w wr) (hz : w.heap.size < wr.heap.size) (hs : wr.heap[w.heap.size]? = some (.cells #[.string s.name, .string s.expr, .bool s.leaf, .int .i64 s.marks, .int .i64 s.least, .int .i64 s.most, .bool s.lines] 59)) (hu : Pure wr w1) : PlainRel w w1 l s (k + 1) v := by
  rw [hn, if_neg (by simp), List.append_nil] at ht
  refine ⟨by rw [ht]; exact Rp.own_upd ho hu (fun _ _ _ h => h), hp.trans hu (fun _ _ h => h), Nat.lt_of_lt_of_le hz hu.size, ?_⟩
  rw [hu.block _ hz (fun h => h)]
  exact hs

theorem PlainRel.set {w wr w1 : World} {v : Value} {xs : List Tok} {os : Obj} (ho : tokR.own 40 wr (fun k => w.heap.size < k) v xs) (hp : Pure w wr) (hu : Pure (wr.alloc os) w1) (u : Value) :
    tokR.own 40 (w1.setCell ⟨wr.heap.size, 3, none⟩ u) (fun k => w.heap.size < k) v xs := by
  have hu' : Upd (fun k => k = wr.heap.size) wr (w1.setCell ⟨wr.heap.size, 3, none⟩ u) :=
    (Upd.trans (S := fun k => k = wr.heap.size) (Upd.alloc1 _ _ _) hu (fun _ _ h => h.elim)).setCell (p := ⟨wr.heap.size, 3, none⟩) (fun _ => rfl) u
  exact Rp.own_upd ho hu' (fun k hk _ => by omega)

/-- A token that is taken. -/
theorem PlainRel.push {w wr w1 w2 : World} {l : List Tok} {s : Spec} {k : Nat} {v v1 u : Value} {x : Tok} {os : Obj} (ht : plain (l.take (k + 1)) s = plain (l.take k) s ++ if plainOk s x then [plainTok s x] else []) (hn : plainOk s x = true)
    (ho : tokR.own 40 wr (fun k => w.heap.size < k) v (plain (l.take k) s)) (hp : Pure w wr) (hz : w.heap.size < wr.heap.size) (hs : wr.heap[w.heap.size]? = some (.cells #[.string s.name, .string s.expr, .bool s.leaf, .int .i64 s.marks, .int .i64 s.least, .int .i64 s.most, .bool s.lines] 59)) (hu : Pure (wr.alloc os) w1)
    (ho1 : tokR.own 40 w2 (fun k => w.heap.size < k) v1 (plain (l.take k) s ++ [plainTok s x])) (hu2 : Upd (fun k => v.ownBlock = some k) (w1.setCell ⟨wr.heap.size, 3, none⟩ u) w2) : PlainRel w w2 l s (k + 1) v1 := by
  rw [hn, if_pos rfl] at ht
  have hu' : Upd (fun k => k = wr.heap.size) wr (w1.setCell ⟨wr.heap.size, 3, none⟩ u) :=
    (Upd.trans (S := fun k => k = wr.heap.size) (Upd.alloc1 _ _ _) hu (fun _ _ h => h.elim)).setCell (p := ⟨wr.heap.size, 3, none⟩) (fun _ => rfl) u
  have hb := Rp.own_block_lt ho
  have hall : Upd (fun k => w.heap.size < k) wr w2 := Upd.trans (hu'.mono (fun k hk h => by omega)) hu2 (fun k hk h => (hb k h).1)
  refine ⟨by rw [ht]; exact ho1, Upd.trans hp hall (fun k hk h => by omega), Nat.lt_of_lt_of_le hz hall.size, ?_⟩
  rw [hall.block _ hz (fun h => by omega)]
  exact hs

set_option maxRecDepth 100000 in
set_option maxHeartbeats 4000000 in
theorem Plain_calls {F : Nat → Prop} {A : Option Addr} {c : Nat} {l : List Tok} {s : Spec} {w : World} (hr : tokR.row w F A l) (hb : l.length ≤ 1048576) :
    Calls Tryz.prog 147 #[.slice A l.length c, s.val] w fun e w' => ∃ v, e = .returned v ∧ tokR.own 40 w' (fun k => w.heap.size ≤ k) v (plain l s) ∧ Pure w w' := by
  have HR := As.mk hr
  clear hr
  go_enter Tryz.func147, Tryz.ntmps147
  go_wp2
  go_loopg [5, 10] l.length (fun g v i wr => ∃ k : Nat, k + g = l.length ∧ i = .int .i64 k ∧ As (PlainRel w wr l s k v))
  case atStart => exact ⟨0, by omega, rfl, ⟨Rp.own_nil _ _ _ _, (Upd.refl _ _).alloc _, by simp, heap_alloc_new w _⟩⟩
  case round =>
    obtain ⟨k, hk, rfl, HC⟩ := hrel
    obtain ⟨hown, hp, hsz, hblk⟩ := HC.out
    by_cases hlt : k < l.length
    · obtain ⟨x, hx⟩ : ∃ x, l[k]? = some x := ⟨_, List.getElem?_eq_getElem hlt⟩
      obtain ⟨b, o, rfl, hF, hbl, c0, c1, c2, c3⟩ := tok_at (Rp.row_pure HR.out hp) hx
      obtain ⟨g1, rfl⟩ : ∃ m, gk = m + 1 := ⟨gk - 1, by omega⟩
      have s3 : wr.cell? ⟨w.heap.size, 3, none⟩ = some (.int .i64 s.marks) := by simp [World.cell?, hblk]
      have s6 : wr.cell? ⟨w.heap.size, 6, none⟩ = some (.bool s.lines) := by simp [World.cell?, hblk]
      have HO := As.mk hown
      have HX := As.mk hx
      have HP := As.mk hp
      have HS := As.mk hblk
      have HT := As.mk (plain_take (s := s) hx)
      have HK := As.mk hk
      have hlen : (plain (l.take k) s).length ≤ 1048576 := by have := plain_len (l.take k) s; rw [List.length_take] at this; omega
      clear hown hx hp hblk hk HC
      by_cases h0 : x.k = 0
      · have e0 : (x.k != 0) = false := by simp [h0]
        have H0 := As.mk h0
        clear h0
        cases hr : rightB x
        · have HN := As.mk (show plainOk s x = false by simp [plainOk, hr])
          go_wp2_with (go_at_call 44; refine (flatRight_calls x _).mono ?_; rintro e w1 ⟨rfl, hu1⟩; obtain ⟨oc, of⟩ := hu1.olds; have hz1 := hu1.size; have HU1 := As.mk hu1; clear hu1)
          go_roundg g1
          case measure => omega
          case rel => exact ⟨k + 1, by have := HK.out; omega, by go_num, ⟨PlainRel.skip HT.out HN.out HO.out HP.out hsz HS.out (Upd.trans (Upd.alloc1 _ _ _) HU1.out (fun _ _ h => h))⟩⟩
        · by_cases h10 : x.n = 10
          · have e10 : (x.n == 10) = true := by simp [h10]
            cases hl : s.lines
            · have HN := As.mk (show plainOk s x = false by simp [plainOk, h10, hl])
              clear h10
              go_wp2_with (go_at_call 44; refine (flatRight_calls x _).mono ?_; rintro e w1 ⟨rfl, hu1⟩; obtain ⟨oc, of⟩ := hu1.olds; have hz1 := hu1.size; have HU1 := As.mk hu1; clear hu1)
              go_roundg g1
              case measure => omega
              case rel => exact ⟨k + 1, by have := HK.out; omega, by go_num, ⟨PlainRel.skip HT.out HN.out HO.out HP.out hsz HS.out (Upd.trans (Upd.alloc1 _ _ _) HU1.out (fun _ _ h => h))⟩⟩
            · have HN := As.mk (show plainOk s x = true by simp [plainOk, hr, hl, H0.out])
              clear h10
              go_wp2_with (first | (go_at_call 44; refine (flatRight_calls x _).mono ?_; rintro e w1 ⟨rfl, hu1⟩; obtain ⟨oc, of⟩ := hu1.olds; have hz1 := hu1.size; have HU1 := As.mk hu1; clear hu1) | (go_at_call 148; refine (Within_calls _ _ _).mono ?_; rintro e w2 ⟨rfl, rfl⟩) | (at_builtin; refine Rp.own_append tokR (W := w1.setCell ⟨wr.heap.size, 3, none⟩ (.int .i64 (within x.m s.marks))) (PlainRel.set HO.out HP.out HU1.out _) (plainTok s x) (plainTok s x).cs rfl (Fp := fun _ => False) (G := fun k => w.heap.size < k) (fun _ h => h.elim) (fun _ h _ => h) (fun k hk => by simp [World.setCell] at hk; simp at hz1; omega) rfl _ _ 22 _ 32 rfl Tryz.underlying22 tok_info rfl (by decide) (by decide) rfl (by simp [Act.eval, World.setCell]) (by omega) ?_; intro v1 w2 ho1 hu2; have HO1 := As.mk ho1; have HU2 := As.mk hu2; clear ho1 hu2))
              go_roundg g1
              case measure => omega
              case rel => exact ⟨k + 1, by have := HK.out; omega, by go_num, ⟨PlainRel.push HT.out HN.out HO.out HP.out hsz HS.out HU1.out HO1.out HU2.out⟩⟩
          · have e10 : (x.n == 10) = false := by simp [h10]
            have HN := As.mk (show plainOk s x = true by simp [plainOk, hr, h10, H0.out])
            clear h10
            go_wp2_with (first | (go_at_call 44; refine (flatRight_calls x _).mono ?_; rintro e w1 ⟨rfl, hu1⟩; obtain ⟨oc, of⟩ := hu1.olds; have hz1 := hu1.size; have HU1 := As.mk hu1; clear hu1) | (go_at_call 148; refine (Within_calls _ _ _).mono ?_; rintro e w2 ⟨rfl, rfl⟩) | (at_builtin; refine Rp.own_append tokR (W := w1.setCell ⟨wr.heap.size, 3, none⟩ (.int .i64 (within x.m s.marks))) (PlainRel.set HO.out HP.out HU1.out _) (plainTok s x) (plainTok s x).cs rfl (Fp := fun _ => False) (G := fun k => w.heap.size < k) (fun _ h => h.elim) (fun _ h _ => h) (fun k hk => by simp [World.setCell] at hk; simp at hz1; omega) rfl _ _ 22 _ 32 rfl Tryz.underlying22 tok_info rfl (by decide) (by decide) rfl (by simp [Act.eval, World.setCell]) (by omega) ?_; intro v1 w2 ho1 hu2; have HO1 := As.mk ho1; have HU2 := As.mk hu2; clear ho1 hu2))
            go_roundg g1
            case measure => omega
            case rel => exact ⟨k + 1, by have := HK.out; omega, by go_num, ⟨PlainRel.push HT.out HN.out HO.out HP.out hsz HS.out HU1.out HO1.out HU2.out⟩⟩
      · have e0 : (x.k != 0) = true := by simp [h0]
        have HN := As.mk (show plainOk s x = false by simp [plainOk, h0])
        clear h0
        go_wp2
        go_roundg g1
        case measure => omega
        case rel => exact ⟨k + 1, by have := HK.out; omega, by go_num, ⟨PlainRel.skip HT.out HN.out HO.out HP.out hsz HS.out (Upd.alloc1 _ _ _)⟩⟩
    · have hkl : k = l.length := by omega
      subst hkl
      have HO := As.mk hown
      have HP := As.mk hp
      clear hown hp hblk HC
      go_wp2
      go_ret
      refine ⟨_, rfl, ?_, HP.out⟩
      have := HO.out
      rw [List.take_length] at this
      exact Rp.own_fp this (fun k hk => by omega)
end Go.Proofs.YteeindicpbcjaaaGreatDoor
