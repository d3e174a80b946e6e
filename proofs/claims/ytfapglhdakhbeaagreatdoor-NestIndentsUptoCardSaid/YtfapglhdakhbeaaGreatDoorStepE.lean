/- copy of elements of any size into a row that the call made. step.tokens: lists joined into an own one. step.do of steps that put or move tokens. step.do: what a step that puts tokens leaves. -/
import Derived.Test.YtfapglhdakhbeaaGreatDoorBase
import Derived.Test.YtfapglhdakhbeaaGreatDoorFlatC
import Derived.Test.YtfapglhdakhbeaaGreatDoorHeldZ
import Derived.Test.YtfapglhdakhbeaaGreatDoorMarkL
import Derived.Laws.CopyOwn
import Derived.Laws.OwnMore
namespace Go.Proofs.YtfapglhdakhbeaaGreatDoor
open Go Go.RowKit
set_option linter.unusedVariables false
set_option linter.unusedSimpArgs false
section
variable {P : Program}
theorem run_copy_rowN (w : World) (dT sT ty elem : TypeId) (g o dLen dCap : Nat) (a : Addr) (sLen sCap sz : Nat) (cur : Array Value) (t : TypeId) (cs : List Value)
    (hu : P.underlying dT = some (.slice elem)) (hs : (P.info? elem).map (·.size) = some sz)
    (hg : w.heap[g]? = some (.cells cur t (0, 0))) (hn : cs.length = Nat.min sLen dLen * sz)
    (hsrc : ∀ j v, cs[j]? = some v → w.cell? (a.add j) = some v) (hfit : o + cs.length ≤ cur.size) (h1 : ∀ v ∈ cs, v.oneCell' = true) :
    (Builtin.copy_ #[dT, sT] ty #[.slice (some ⟨g, o, none⟩) dLen dCap, .slice (some a) sLen sCap]).run P w =
      .ok (goInt (Nat.min sLen dLen)) (w.setRow g (cur.toList.take o ++ cs ++ cur.toList.drop (o + cs.length)).toArray) := by
  have hl := run_loadCells_list (P := P) w a cs hsrc
  have hst := run_storeCells_at P g o t cs 0 cur w hg (by simpa using hfit) h1
  cases hq : P.info? elem with
  | none => simp [hq] at hs
  | some i =>
    have hi : i.size = sz := by simpa [hq] using hs
    simp [Builtin.copy_, run_underlying hu, Builtin.lenOf, Builtin.firstCells, sizeOf, typeInfo, hq, hi, ← hn, hl, hst]
theorem run_copy_zero (w : World) (dT sT ty elem : TypeId) (d a : Option Addr) (dLen dCap sLen sCap sz : Nat) (hu : P.underlying dT = some (.slice elem)) (hs : (P.info? elem).map (·.size) = some sz) (hn : Nat.min sLen dLen = 0) :
    (Builtin.copy_ #[dT, sT] ty #[.slice d dLen dCap, .slice a sLen sCap]).run P w = .ok (goInt 0) w := by
  cases hq : P.info? elem with
  | none => simp [hq] at hs
  | some i =>
    have hi : i.size = sz := by simpa [hq] using hs
    cases a with
    | none => cases d <;> simp [Builtin.copy_, run_underlying hu, Builtin.lenOf, Builtin.firstCells, sizeOf, typeInfo, hq, hi, hn, storeCells]
    | some a =>
      have hl := run_loadCells_list (P := P) w a [] (fun j v h => by cases h)
      simp at hl
      cases d <;> simp [Builtin.copy_, run_underlying hu, Builtin.lenOf, Builtin.firstCells, sizeOf, typeInfo, hq, hi, hn, hl, storeCells]
/-- The law at the operation: the place and the cells are the prover's. -/
theorem wpList_copy_N {w : World} {ops : Array Oper} {rest : List Oper} {o : Oper} {a : Act} {Q : Exit → Act → World → Prop} (hgd : o.guard = none) (d s : Operand) (dT sT : TypeId)
    (ho : o.op = .call { callee := .builtin .copy, args := #[d, s], argTypes := #[dT, sT] }) (elem : TypeId) (sz : Nat) (hu : P.underlying dT = some (.slice elem)) (hsz : (P.info? elem).map (·.size) = some sz)
    (dp sp : Option Addr) (dLen dCap sLen sCap : Nat) (hd : a.eval d = .slice dp dLen dCap) (hs : a.eval s = .slice sp sLen sCap)
    (g off : Nat) (cur : List Value) (t : TypeId) (hg : w.heap[g]? = some (.cells cur.toArray t (0, 0))) (cs : List Value) (hn : cs.length = Nat.min sLen dLen * sz)
    (hpos : 0 < Nat.min sLen dLen → dp = some ⟨g, off, none⟩ ∧ ∃ ad, sp = some ad ∧ ∀ j v, cs[j]? = some v → w.cell? (ad.add j) = some v)
    (hfit : off + cs.length ≤ cur.length) (h1 : ∀ v ∈ cs, v.oneCell' = true)
    (h : ∀ w', As (w'.heap[g]? = some (.cells (splice cur off cs).toArray t (0, 0)) ∧ Upd (fun k => k = g) w w') → wpList P ops Q rest (a.put o.dst (goInt (Nat.min sLen dLen))) w') :
    wpList P ops Q (o :: rest) a w := by
  refine wpList_plain hgd fun K hK => ?_
  by_cases h0 : Nat.min sLen dLen = 0
  · have hrun := run_copy_zero (P := P) w dT sT o.type elem dp sp dLen dCap sLen sCap sz hu hsz h0
    obtain rfl : cs = [] := List.eq_nil_of_length_eq_zero (by rw [hn, h0, Nat.zero_mul])
    unfold Oper.wp
    simp [execOp, ho, resolve, invoke, builtin, hd, hs, hrun, Result.andThen]
    have := h w ⟨by simpa [splice] using hg, Upd.refl _ _⟩
    rw [h0] at this
    exact hK _ _ this
  · obtain ⟨rfl, ad, rfl, hsrc⟩ := hpos (by omega)
    have hrun := run_copy_rowN (P := P) w dT sT o.type elem g off dLen dCap ad sLen sCap sz cur.toArray t cs hu hsz hg hn hsrc (by simpa using hfit) h1
    unfold Oper.wp
    simp [execOp, ho, resolve, invoke, builtin, hd, hs, hrun, Result.andThen]
    refine hK _ _ (h _ ⟨by simpa [splice] using setRow_heap w g _ _ t _ hg, ⟨rfl, rfl, rfl, by simp [World.setRow], fun k hk hn => setRow_other w g k _ (fun e => hn e)⟩⟩)
end
end Go.Proofs.YtfapglhdakhbeaaGreatDoor
namespace Go.Proofs.YtfapglhdakhbeaaGreatDoor
open Go.RowKit
set_option linter.unusedVariables false
set_option linter.unusedSimpArgs false

theorem toks_info : (Tryz.prog.info? 22).map (fun i => (i.zero, i.size, i.bytes)) = some (some (.slice none 0 0), 1, 24) := by kernel_rfl
theorem tok_size : (Tryz.prog.info? 71).map (·.size) = some 4 := by kernel_rfl
/-- Tokens, cell by cell. -/
def flatT (l : List Tok) : List Value := l.flatMap Tok.cs
theorem flatT_len (l : List Tok) : (flatT l).length = l.length * 4 := by
  unfold flatT
  induction l with
  | nil => rfl
  | cons x r ih => rw [List.flatMap_cons, List.length_append, ih]; simp [Tok.cs]; omega
theorem flatT_app (a b : List Tok) : flatT (a ++ b) = flatT a ++ flatT b := by unfold flatT; rw [List.flatMap_append]
theorem flatT_one : ∀ l : List Tok, ∀ v ∈ flatT l, v.oneCell' = true := by
  intro l v hv
  unfold flatT at hv
  obtain ⟨x, _, h⟩ := List.mem_flatMap.1 hv
  simp [Tok.cs] at h
  rcases h with rfl | rfl | rfl | rfl <;> rfl
theorem flatT_at : ∀ (l : List Tok) (j : Nat) (x : Tok), l[j]? = some x → ((flatT l).drop (j * 4)).take 4 = x.cs := by
  intro l
  induction l with
  | nil => intro j x h; cases h
  | cons y r ih =>
    intro j x h
    cases j with
    | zero =>
      simp only [List.getElem?_cons_zero, Option.some.injEq] at h
      subst h
      rfl
    | succ j =>
      rw [List.getElem?_cons_succ] at h
      rw [show (j + 1) * 4 = 4 + j * 4 by omega, ← List.drop_drop]
      exact ih j x h
theorem reps_flatT (w : World) (F : Nat → Prop) (l : List Tok) : Reps (tokR.rep w F) 4 l (flatT l) := ⟨flatT_len l, fun j x hx => flatT_at l j x hx⟩
/-- The cells of a row of tokens. -/
theorem row_flat {w : World} {F : Nat → Prop} {A : Option Addr} {l : List Tok} (h : tokR.row w F A l) (hne : l ≠ []) : ∃ ad, A = some ad ∧ ∀ j v, (flatT l)[j]? = some v → w.cell? (ad.add j) = some v := by
  rcases h with h | ⟨b, o, rfl, _, _, hc⟩
  · exact absurd h hne
  · refine ⟨⟨b, o, none⟩, rfl, fun j v hv => ?_⟩
    have hadd : (⟨b, o, none⟩ : Addr).add j = ⟨b, o + j, none⟩ := by unfold Addr.add; split <;> simp_all
    have hj : j < (flatT l).length := (List.getElem?_eq_some_iff.1 hv).1
    rw [flatT_len] at hj
    have hq : j / 4 < l.length := by omega
    obtain ⟨x, hx⟩ : ∃ x, l[j / 4]? = some x := ⟨_, List.getElem?_eq_getElem hq⟩
    obtain ⟨cs, hr, hcs⟩ := hc _ _ hx
    have hr' : cs = x.cs := hr
    subst hr'
    have h4 := flatT_at l _ x hx
    have h5 : (x.cs)[j % 4]? = some v := by
      rw [← h4, List.getElem?_take, if_pos (by omega), List.getElem?_drop, show j / 4 * 4 + j % 4 = j by omega]
      exact hv
    rw [hadd, ← hcs _ _ h5]
    congr 2
    show o + j = o + j / 4 * 4 + j % 4
    omega
/-- A row of lists of tokens. -/
abbrev toksR : Rp (List Tok) := Rp.slice tokR
theorem toks_at {w : World} {F : Nat → Prop} {A : Option Addr} {ls : List (List Tok)} (h : toksR.row w F A ls) {j : Nat} {x : List Tok} (hx : ls[j]? = some x) :
    ∃ b o B c, A = some ⟨b, o, none⟩ ∧ F b ∧ b < w.heap.size ∧ x.length ≤ c ∧ tokR.row w F B x ∧ w.cell? ⟨b, o + j, none⟩ = some (.slice B x.length c) := by
  obtain ⟨b, o, cs, hA, hF, hb, ⟨B, c, hcs, hlc, hrow⟩, hc⟩ := Rp.row_at h hx
  subst hcs
  have := hc 0 _ rfl
  rw [show toksR.sz = 1 from rfl, Nat.mul_one] at this
  exact ⟨b, o, B, c, hA, hF, hb, hlc, hrow, this⟩
def sumL (ls : List (List Tok)) : Nat := (ls.map (·.length)).sum
theorem sumL_take {ls : List (List Tok)} {k : Nat} {x : List Tok} (hx : ls[k]? = some x) : sumL (ls.take (k + 1)) = sumL (ls.take k) + x.length := by
  unfold sumL
  rw [List.take_add_one, hx]
  simp
theorem sumL_le (ls : List (List Tok)) (k : Nat) : sumL (ls.take k) ≤ sumL ls := by
  unfold sumL
  rw [List.map_take]
  conv => rhs; rw [← List.take_append_drop k (ls.map (·.length)), List.sum_append]
  omega
theorem flatten_take {ls : List (List Tok)} {k : Nat} {x : List Tok} (hx : ls[k]? = some x) : (ls.take (k + 1)).flatten = (ls.take k).flatten ++ x := by
  rw [List.take_add_one, hx]
  simp
theorem flatten_len (ls : List (List Tok)) : ls.flatten.length = sumL ls := by
  unfold sumL
  rw [List.length_flatten]
/-- Where the rounds stand: the row of the call's own, block g, holds what has come. -/
def TkRel (w wr : World) (g : Nat) (ls : List (List Tok)) (k : Nat) : Prop :=
  Pure w wr ∧ w.heap.size ≤ g ∧ g < wr.heap.size ∧ ∃ cur : List Value, wr.heap[g]? = some (.cells cur.toArray 71 (0, 0)) ∧ cur.length = sumL ls * 4 ∧ cur.take (sumL (ls.take k) * 4) = flatT (ls.take k).flatten
theorem TkRel.step {w wr w1 : World} {g : Nat} {ls : List (List Tok)} {k : Nat} {x : List Tok} {cur : List Value} (hx : ls[k]? = some x) (hp : Pure w wr) (hg : w.heap.size ≤ g) (hgl : g < wr.heap.size) (hl : cur.length = sumL ls * 4) (ht : cur.take (sumL (ls.take k) * 4) = flatT (ls.take k).flatten)
    (h1 : w1.heap[g]? = some (.cells (splice cur (sumL (ls.take k) * 4) (flatT x)).toArray 71 (0, 0))) (hu : Upd (fun q => q = g) wr w1) : TkRel w w1 g ls (k + 1) := by
  have hs := sumL_take hx
  have hle := sumL_le ls (k + 1)
  have hfl := flatT_len x
  refine ⟨Upd.trans hp hu (fun q hq h => by omega), hg, Nat.lt_of_lt_of_le hgl hu.size, _, h1, ?_, ?_⟩
  · rw [length_splice _ _ _ (by rw [hl, hfl]; omega), hl]
  · unfold splice
    rw [hs, flatten_take hx, flatT_app, ← ht, ← List.append_assoc]
    rw [List.take_append_of_le_length (by simp only [List.length_append, List.length_take, hfl, hl]; omega)]
    rw [List.take_of_length_le (by simp only [List.length_append, List.length_take, hfl, hl]; omega)]
set_option maxRecDepth 100000 in
set_option maxHeartbeats 4000000 in
theorem tokens_calls {w : World} {F : Nat → Prop} {A : Option Addr} {c : Nat} {ls : List (List Tok)} (hr : toksR.row w F A ls) (hlc : ls.length ≤ c) (hl : ls.length ≤ 1000) (hb : sumL ls ≤ 1048576 * 8) :
    Calls Tryz.prog 159 #[.slice A ls.length c] w fun r w' => (∃ B, r = .returned (.slice (some B) ls.flatten.length ls.flatten.length) ∧ tokR.row w' (fun k => w.heap.size ≤ k) (some B) ls.flatten) ∧ Pure w w' := by
  obtain ⟨i0, hi, hzz⟩ := Option.map_eq_some_iff.1 tok_info
  simp only [Prod.mk.injEq] at hzz
  obtain ⟨hz0, hz1, hz2⟩ := hzz
  have HR := As.mk hr
  clear hr
  go_enter Tryz.func159, Tryz.ntmps159
  go_wp2
  go_loopg [3, 12] ls.length (fun gg nv kv wr => ∃ k : Nat, k + gg = ls.length ∧ kv = .int .i64 k ∧ nv = .int .i64 (sumL (ls.take k) : Nat) ∧ As (Pure w wr))
  case atStart => exact ⟨0, by omega, rfl, by simp [sumL], ⟨Upd.refl _ _⟩⟩
  case round =>
    obtain ⟨k, hk, rfl, rfl, HP⟩ := hrel
    by_cases hlt : k < ls.length
    · obtain ⟨x, hx⟩ : ∃ x, ls[k]? = some x := ⟨_, List.getElem?_eq_getElem hlt⟩
      obtain ⟨b, o, B, cx, rfl, hF, hbl, hcx, hrow, hcell⟩ := toks_at (Rp.row_pure HR.out HP.out) hx
      have hs := sumL_take hx
      have hle := sumL_le ls (k + 1)
      obtain ⟨g1, rfl⟩ : ∃ m, gk = m + 1 := ⟨gk - 1, by omega⟩
      have hw1 : IntKind.i64.wrap ((sumL (ls.take k) : Nat) + (x.length : Int)) = (sumL (ls.take k) : Nat) + (x.length : Int) := IntWalk.i64_in _ (by omega)
      have HS := As.mk hs
      clear hx hrow hs
      go_wp2
      go_roundg g1
      case measure => omega
      case rel => exact ⟨k + 1, by omega, by go_num, by rw [HS.out]; go_num, HP⟩
    · obtain rfl : k = ls.length := by omega
      obtain ⟨wo, rfl⟩ : ∃ wo : World, wo = wr := ⟨_, rfl⟩
      have htl : ls.take ls.length = ls := List.take_length
      rw [htl]
      obtain ⟨N, hN⟩ : ∃ N, sumL ls = N := ⟨_, rfl⟩
      rw [hN]
      have hNb : N ≤ 1048576 * 8 := by omega
      have hmk := run_make (P := Tryz.prog) wo 22 71 i0 _ Tryz.underlying22 hi hz0 .i64 .i64 (N : Int) N (by omega) (Int.le_refl _) (by rw [hz2]; push_cast; omega) (by omega)
      simp only [Int.toNat_natCast] at hmk
      obtain ⟨C, hC⟩ : ∃ C, madeCells (Value.agg #[.int .i64 0, .int .i64 0, .int .i64 0, .int .i64 0]).cells (N * i0.size) = C := ⟨_, rfl⟩
      rw [hC] at hmk
      have hCs : C.size = N * 4 := by rw [← hC, size_madeCells, hz1]
      obtain ⟨cur0, rfl⟩ : ∃ cur0 : List Value, C = cur0.toArray := ⟨C.toList, by simp⟩
      have hcl : cur0.length = N * 4 := by simpa using hCs
      have H0 := As.mk (show TkRel w (wo.alloc (.cells cur0.toArray 71)) wo.heap.size ls 0 from ⟨HP.out.alloc _, HP.out.size, by simp, cur0, heap_alloc_new wo _, by rw [hcl, hN], by simp [sumL, flatT]⟩)
      have HN := As.mk hN
      have HCL := As.mk hcl
      clear htl hN hC hCs hcl hz0 hz1 hz2 hi
      go_wp2
      go_loopg [7, 25] ls.length (fun gg av kv wx => ∃ k : Nat, k + gg = ls.length ∧ kv = .int .i64 k ∧ av = .int .i64 (sumL (ls.take k) : Nat) ∧ As (TkRel w wx wo.heap.size ls k))
      case atStart => exact ⟨0, by omega, rfl, by simp [sumL], H0⟩
      case round =>
        obtain ⟨k, hk, rfl, rfl, HT⟩ := hrel
        obtain ⟨hp, hg1, hg2, cur, hblk, hcl, htk⟩ := HT.out
        by_cases hlt : k < ls.length
        · obtain ⟨x, hx⟩ : ∃ x, ls[k]? = some x := ⟨_, List.getElem?_eq_getElem hlt⟩
          obtain ⟨b, o, B, cx, rfl, hF, hbl, hcx, hrow, hcell⟩ := toks_at (Rp.row_pure HR.out hp) hx
          have hs := sumL_take hx
          have hle := sumL_le ls (k + 1)
          obtain ⟨g1, rfl⟩ : ∃ m, gk = m + 1 := ⟨gk - 1, by omega⟩
          obtain ⟨S0, hS0⟩ : ∃ S0, sumL (ls.take k) = S0 := ⟨_, rfl⟩
          have hSN : S0 + x.length ≤ N := by have := HN.out; omega
          have HSX := As.mk (show sumL (ls.take (k + 1)) = S0 + x.length by omega)
          have hfl := flatT_len x
          have HST := As.mk (fun (W1 : World) (h1 : W1.heap[wo.heap.size]? = some (.cells (splice cur (S0 * 4) (flatT x)).toArray 71 (0, 0))) (hu : Upd (fun q => q = wo.heap.size) wr W1) => TkRel.step hx hp hg1 hg2 hcl htk (by rw [hS0]; exact h1) hu)
          by_cases hroom : S0 < N
          · skip
            have hw1 : IntKind.i64.wrap ((S0 : Int) + (x.length : Int)) = (S0 : Int) + (x.length : Int) := IntWalk.i64_in _ (by omega)
            have hle0 : ¬ (N : Int) < (S0 : Int) := by omega
            rw [hS0]
            have HX0 := As.mk (And.intro hp (And.intro hg1 hg2))
            by_cases h0 : x.length = 0
            · have hx0 : x = [] := List.eq_nil_of_length_eq_zero h0
              subst hx0
              have hcopy := run_copy_zero (P := Tryz.prog) wr 22 22 3 71 (some ⟨wo.heap.size, S0 * 4, none⟩) B (N - S0) (N - S0) 0 cx 4 Tryz.underlying22 tok_size (by simp [Nat.min_def])
              have HG := As.mk (HST.out wr (by rw [hblk]; simp [splice, flatT]) (Upd.refl _ _))
              have hw2 : IntKind.i64.wrap ((S0 : Int) + 0) = (S0 : Int) := IntWalk.i64_in _ (by omega)
              simp only [List.length_nil, Nat.add_zero] at HSX
              clear hx hs hfl hp hblk hcl htk hS0 hrow hw1 hg1
              go_wp2
              go_roundg g1
              case measure => omega
              case rel => exact ⟨k + 1, by omega, by go_num, by first | (rw [HSX.out]; done) | (rw [HSX.out, Int.natCast_add]), HG⟩
            · obtain ⟨ad, rfl, hcells⟩ := row_flat hrow (by intro e; rw [e] at h0; exact h0 rfl)
              have hmin : Nat.min x.length (N - S0) = x.length := Nat.min_eq_left (by omega)
              have hcopy := run_copy_rowN (P := Tryz.prog) wr 22 22 3 71 wo.heap.size (S0 * 4) (N - S0) (N - S0) ad x.length cx 4 cur.toArray 71 (flatT x) Tryz.underlying22 tok_size hblk (by rw [hmin]; exact hfl) hcells (by rw [hfl, List.size_toArray, hcl]; have := HN.out; omega) (flatT_one x)
              rw [hmin] at hcopy
              obtain ⟨W1, hW1⟩ : ∃ W1, wr.setRow wo.heap.size (cur.toArray.toList.take (S0 * 4) ++ flatT x ++ cur.toArray.toList.drop (S0 * 4 + (flatT x).length)).toArray = W1 := ⟨_, rfl⟩
              have hb1 : W1.heap[wo.heap.size]? = some (.cells (splice cur (S0 * 4) (flatT x)).toArray 71 (0, 0)) := by
                rw [← hW1]
                have h9 := setRow_heap wr wo.heap.size cur.toArray (cur.toArray.toList.take (S0 * 4) ++ flatT x ++ cur.toArray.toList.drop (S0 * 4 + (flatT x).length)).toArray 71 (0, 0) hblk
                rw [h9]
                simp [splice]
              have hu1 : Upd (fun q => q = wo.heap.size) wr W1 := by
                rw [← hW1]
                exact ⟨rfl, rfl, rfl, by simp [World.setRow], fun q hq hn => setRow_other wr wo.heap.size q _ (fun e => hn e)⟩
              rw [hW1] at hcopy
              have HG := As.mk (HST.out W1 hb1 hu1)
              clear hx hs hfl hp hblk hcl htk hS0 hrow hcells hmin hW1 hb1 hu1 h0 hg1
              go_wp2
              go_roundg g1
              case measure => omega
              case rel => exact ⟨k + 1, by omega, by go_num, by first | (rw [HSX.out]; done) | (rw [HSX.out, Int.natCast_add]), HG⟩
          · have hS1 : S0 = N := by omega
            have hx0 : x.length = 0 := by omega
            have hxn : x = [] := List.eq_nil_of_length_eq_zero hx0
            subst hxn
            have hcopy := run_copy_zero (P := Tryz.prog) wr 22 22 3 71 (some ⟨wo.heap.size, 0, none⟩) B 0 0 0 cx 4 Tryz.underlying22 tok_size (by simp [Nat.min_def])
            have HG := As.mk (HST.out wr (by rw [hblk]; simp [splice, flatT]) (Upd.refl _ _))
            have hw2 : IntKind.i64.wrap ((N : Int) + 0) = (N : Int) := IntWalk.i64_in _ (by omega)
            simp only [List.length_nil, Nat.add_zero] at HSX
            rw [hS0]
            subst hS1
            clear hx hs hfl hp hblk hcl htk hS0 hrow hg1 hroom
            go_wp2
            go_roundg g1
            case measure => omega
            case rel => exact ⟨k + 1, by omega, by go_num, by first | (rw [HSX.out]) | (rw [HSX.out]; go_num), HG⟩
        · obtain rfl : k = ls.length := by omega
          have htl : ls.take ls.length = ls := List.take_length
          rw [htl] at htk
          have hN := HN.out
          have hfin : flatT ls.flatten = cur := by
            rw [← htk, List.take_of_length_le (by omega)]
          have hrow : tokR.row wr (fun q => w.heap.size ≤ q) (some ⟨wo.heap.size, 0, none⟩) ls.flatten := Rp.row_of_block hblk hg1 (by rw [List.toList_toArray, ← hfin]; exact reps_flatT _ _ _)
          have HRW := As.mk hrow
          have HP2 := As.mk hp
          have HLN := As.mk (show ls.flatten.length = N by rw [flatten_len, hN])
          rw [htl]
          clear htl htk hN hfin hrow hp hblk hcl hg1 hg2 HT
          go_wp2
          go_ret
          exact ⟨⟨_, by rw [HLN.out]; rfl, HRW.out⟩, HP2.out⟩
end Go.Proofs.YtfapglhdakhbeaaGreatDoor
namespace Go.Proofs.YtfapglhdakhbeaaGreatDoor
open Go.RowKit
set_option linter.unusedVariables false
set_option linter.unusedSimpArgs false

theorem row_take {w : World} {F : Nat → Prop} {A : Option Addr} {l : List Tok} (h : tokR.row w F A l) (n : Nat) : tokR.row w F A (l.take n) := by
  rcases h with rfl | ⟨b, o, hA, hF, hb, hc⟩
  · exact .inl (by simp)
  · refine .inr ⟨b, o, hA, hF, hb, fun j x hx => hc j x ?_⟩
    rw [List.getElem?_take] at hx
    split at hx
    · exact hx
    · cases hx
theorem row_drop {w : World} {F : Nat → Prop} {b o : Nat} {l : List Tok} (h : tokR.row w F (some ⟨b, o, none⟩) l) (n : Nat) : tokR.row w F (some ⟨b, o + n * 4, none⟩) (l.drop n) := by
  rcases h with rfl | ⟨b', o', hA, hF, hb, hc⟩
  · exact .inl (by simp)
  · simp only [Option.some.injEq, Addr.mk.injEq, and_true] at hA
    obtain ⟨rfl, rfl⟩ := hA
    refine .inr ⟨b, o + n * 4, rfl, hF, hb, fun j x hx => ?_⟩
    rw [List.getElem?_drop] at hx
    obtain ⟨cs, h1, h2⟩ := hc _ _ hx
    refine ⟨cs, h1, fun i u hu => ?_⟩
    have := h2 i u hu
    rw [show tokR.sz = 4 from rfl] at this ⊢
    rw [show o + n * 4 + j * 4 + i = o + (n + j) * 4 + i by omega]
    exact this
/-- A slice value of tokens, wherever it lies. -/
def TokS (w : World) (F : Nat → Prop) (v : Value) (l : List Tok) : Prop := ∃ A c, v = .slice A l.length c ∧ l.length ≤ c ∧ tokR.row w F A l
/-- The slices' box is a row of lists. -/
theorem toks_box {w : World} {F : Nat → Prop} {vs : List Value} {ls : List (List Tok)} {b : Nat} {e : TypeId} {fr : Nat × Nat} (hb : w.heap[b]? = some (.cells vs.toArray e fr)) (hF : F b) (hl : vs.length = ls.length) (h : ∀ (j : Nat) (v : Value) (x : List Tok), vs[j]? = some v → ls[j]? = some x → TokS w F v x) : toksR.row w F (some ⟨b, 0, none⟩) ls := by
  refine Rp.row_of_block hb hF ⟨by rw [List.toList_toArray, hl]; show ls.length = ls.length * 1; omega, fun j x hx => ?_⟩
  have hj : j < vs.length := by rw [hl]; exact (List.getElem?_eq_some_iff.1 hx).1
  obtain ⟨A, c, hv, hlc, hr⟩ := h j vs[j] x (List.getElem?_eq_getElem hj) hx
  refine ⟨A, c, ?_, hlc, hr⟩
  rw [List.toList_toArray, show toksR.sz = 1 from rfl, Nat.mul_one, ← hv]
  rw [List.drop_eq_getElem_cons hj]
  rfl
theorem TokS.pure {w w1 : World} {F : Nat → Prop} {v : Value} {l : List Tok} (h : TokS w F v l) (hu : Pure w w1) : TokS w1 F v l := by
  obtain ⟨A, c, h1, h2, h3⟩ := h
  exact ⟨A, c, h1, h2, Rp.row_pure h3 hu⟩
theorem TokS.fp {w : World} {F : Nat → Prop} {v : Value} {l : List Tok} (h : TokS w F v l) : TokS w (fun _ => True) v l := by
  obtain ⟨A, c, h1, h2, h3⟩ := h
  exact ⟨A, c, h1, h2, Rp.row_fp h3 (fun _ _ => trivial)⟩
theorem TokS.take {w : World} {F : Nat → Prop} {A : Option Addr} {c n m : Nat} {l : List Tok} (h : tokR.row w F A l) (hn : n ≤ l.length) (hc : l.length ≤ c) (hm : n = m) : TokS w F (.slice A m c) (l.take n) := by
  subst hm
  exact ⟨A, c, by rw [List.length_take, Nat.min_eq_left hn], by rw [List.length_take]; omega, row_take h n⟩
theorem TokS.drop {w : World} {F : Nat → Prop} {b o : Nat} {c n m c' : Nat} {l : List Tok} (h : tokR.row w F (some ⟨b, o, none⟩) l) (hn : n ≤ l.length) (hc : l.length ≤ c) (hm : l.length - n = m) (hc' : c - n = c') : TokS w F (.slice (some ⟨b, o + n * 4, none⟩) m c') (l.drop n) := by
  subst hm hc'
  exact ⟨_, c - n, by rw [List.length_drop], by rw [List.length_drop]; omega, row_drop h n⟩
theorem TokS.end {w : World} {F : Nat → Prop} {A : Option Addr} {n : Nat} {l : List Tok} (hn : l.length ≤ n) : TokS w F (.slice A 0 0) (l.drop n) := by
  rw [List.drop_eq_nil_of_le hn]
  exact ⟨A, 0, rfl, Nat.le_refl _, .inl rfl⟩
theorem TokS.whole {w : World} {F : Nat → Prop} {A : Option Addr} {c n : Nat} {l : List Tok} (h : tokR.row w F A l) (hc : l.length ≤ c) (hn : l.length = n) : TokS w F (.slice A n c) l := by
  subst hn
  exact ⟨A, c, rfl, hc, h⟩
theorem TokS.mid {w : World} {F : Nat → Prop} {b o : Nat} {c g h m c' : Nat} {l : List Tok} (hr : tokR.row w F (some ⟨b, o, none⟩) l) (hh : h ≤ l.length) (hc : l.length ≤ c) (hm : h - g = m) (hc' : c - g = c') : TokS w F (.slice (some ⟨b, o + g * 4, none⟩) m c') ((l.take h).drop g) := by
  subst hm hc'
  exact ⟨_, c - g, by rw [List.length_drop, List.length_take]; congr 1; omega, by rw [List.length_drop, List.length_take]; omega, row_drop (row_take hr h) g⟩
theorem TokS.cut {w : World} {F : Nat → Prop} {b o : Nat} {c n m c' : Nat} {l : List Tok} (h : tokR.row w F (some ⟨b, o, none⟩) l) (hn : n ≤ l.length) (hc : l.length ≤ c) (hm : l.length - n = m) (hc' : c - n = c') : TokS w F (.slice (if c = n then some ⟨b, o, none⟩ else some ⟨b, o + n * 4, none⟩) m c') (l.drop n) := by
  split
  · rename_i e
    subst hm hc'
    rw [show l.length - n = 0 by omega, show c - n = 0 by omega]
    exact TokS.end (by omega)
  · exact TokS.drop h hn hc hm hc'
theorem tokens3 {w : World} {F0 F1 F2 : Nat → Prop} {x0 x1 x2 : List Tok} (hb : x0.length + x1.length + x2.length ≤ 1048576) (W : World) (hu : Pure w W) {v0 v1 v2 : Value} {blk : Nat} {e : TypeId} {fr : Nat × Nat} (hblk : W.heap[blk]? = some (.cells #[v0, v1, v2] e fr)) (h0 : TokS w F0 v0 x0) (h1 : TokS w F1 v1 x1) (h2 : TokS w F2 v2 x2) :
    Calls Tryz.prog 159 #[.slice (some ⟨blk, 0, none⟩) 3 3] W fun r w' => (∃ B, r = .returned (.slice (some B) (x0 ++ (x1 ++ x2)).length (x0 ++ (x1 ++ x2)).length) ∧ tokR.row w' (fun k => W.heap.size ≤ k) (some B) (x0 ++ (x1 ++ x2))) ∧ Pure W w' := by
  have hr : toksR.row W (fun _ => True) (some ⟨blk, 0, none⟩) [x0, x1, x2] := toks_box (vs := [v0, v1, v2]) hblk trivial rfl (fun j v x hv hx => by
    match j, hv, hx with
    | 0, hv, hx => simp at hv hx; subst hv hx; exact (h0.pure hu).fp
    | 1, hv, hx => simp at hv hx; subst hv hx; exact (h1.pure hu).fp
    | 2, hv, hx => simp at hv hx; subst hv hx; exact (h2.pure hu).fp
    | j + 3, hv, hx => simp at hv)
  have h := tokens_calls (c := 3) hr (Nat.le_refl _) (by simp) (by simp [sumL]; omega)
  have e : ([x0, x1, x2] : List (List Tok)).flatten = x0 ++ (x1 ++ x2) := by simp
  rw [e] at h
  exact h
end Go.Proofs.YtfapglhdakhbeaaGreatDoor
namespace Go.Proofs.YtfapglhdakhbeaaGreatDoor
open Go.RowKit
set_option linter.unusedVariables false
set_option linter.unusedSimpArgs false

/-- A fresh row of tokens is answered. -/
def Fresh (w : World) (l : List Tok) (r : Ending) (w' : World) : Prop := (∃ B, r = .returned (.slice (some B) l.length l.length) ∧ tokR.row w' (fun k => w.heap.size ≤ k) (some B) l) ∧ Pure w w'
theorem Fresh.of {w W : World} {l : List Tok} {r : Ending} {w' : World} (hu : Pure w W) {B : Addr} {n : Nat} (hr : r = .returned (.slice (some B) n n)) (hn : l.length = n) (hrow : tokR.row w' (fun k => W.heap.size ≤ k) (some B) l) (hp : Pure W w') : Fresh w l r w' := by
  subst hn
  exact ⟨⟨B, hr, Rp.row_fp hrow (fun k h => Nat.le_trans hu.size h)⟩, hu.trans hp (fun _ _ h => h)⟩
set_option maxRecDepth 100000 in
set_option maxHeartbeats 4000000 in
theorem do_repl_some {w : World} {F G : Nat → Prop} {b o : Nat} {A B : Option Addr} {c cb : Nat} {l sl : List Tok} {p q : Nat} (hr : tokR.row w F (some ⟨b, o, none⟩) l) (hlc : l.length ≤ c) (hs : tokR.row w G B sl) (hsc : sl.length ≤ cb) (hb : l.length + sl.length ≤ 100000) (hp : p ≤ q) (hq : q ≤ l.length) :
    Calls Tryz.prog 120 #[.slice (some ⟨b, o, none⟩) l.length c, (repl p q sl).val B cb] w (Fresh w (l.take p ++ (sl ++ l.drop q))) := by
  have hbox := Upd.alloc1 (fun _ => False) w (.cells #[.int .i64 0, .int .i64 (p : Nat), .int .i64 (q : Nat), .int .i64 0, .int .i64 0, .int .i64 0, .slice B sl.length cb, .int .i64 0] 46)
  have hblk := heap_alloc_new w (.cells #[.int .i64 0, .int .i64 (p : Nat), .int .i64 (q : Nat), .int .i64 0, .int .i64 0, .int .i64 0, .slice B sl.length cb, .int .i64 0] 46)
  have h1 := TokS.take (m := p) hr (by omega) hlc rfl
  have h2 := TokS.whole hs hsc rfl
  have h3 := TokS.cut (m := l.length - q) (c' := c - q) hr hq hlc rfl rfl
  have HT := As.mk (fun (W : World) (hu : Pure w W) (blk : Nat) (e : TypeId) (fr : Nat × Nat) hblk => tokens3 (x0 := l.take p) (x1 := sl) (x2 := l.drop q) (by rw [List.length_take, List.length_drop]; omega) W hu (blk := blk) (e := e) (fr := fr) hblk h1 h2 h3)
  have HB := As.mk hbox
  have HBK := As.mk (fun (cs : Array Value) (T : TypeId) => (by
    have h := heap_alloc_new (w.alloc (.cells #[.int .i64 0, .int .i64 (p : Nat), .int .i64 (q : Nat), .int .i64 0, .int .i64 0, .int .i64 0, .slice B sl.length cb, .int .i64 0] 46)) (.cells cs T)
    rw [World.size_alloc] at h
    exact h : (((w.alloc (.cells #[.int .i64 0, .int .i64 (p : Nat), .int .i64 (q : Nat), .int .i64 0, .int .i64 0, .int .i64 0, .slice B sl.length cb, .int .i64 0] 46)).alloc (.cells cs T)).drew).heap[w.heap.size + 1]? = some (.cells cs T (0, 0))))
  have q0 : ∀ v, Pure (w.alloc (.cells #[.int .i64 0, .int .i64 (p : Nat), .int .i64 (q : Nat), .int .i64 0, .int .i64 0, .int .i64 0, .slice B sl.length cb, .int .i64 0] 46)) v → v.cell? ⟨w.heap.size, 1, none⟩ = some (.int .i64 (p : Nat)) ∧ v.cell? ⟨w.heap.size, 2, none⟩ = some (.int .i64 (q : Nat)) ∧ v.cell? ⟨w.heap.size, 6, none⟩ = some (.slice B sl.length cb) := fun v hu => by
    have := (hu.block w.heap.size (by simp) (fun h => h)).trans hblk
    refine ⟨?_, ?_, ?_⟩ <;> (unfold World.cell?; simp only [this]; rfl)
  have HQ := As.mk q0
  have i1 : (0 : Int) ≤ ((p : Nat) : Int) := by omega
  have i2 : ((p : Nat) : Int) ≤ ((c : Nat) : Int) := by omega
  have i3 : (0 : Int) ≤ ((q : Nat) : Int) := by omega
  have i4 : ((q : Nat) : Int) ≤ ((l.length : Nat) : Int) := by omega
  have i5 : ((q : Nat) : Int) ≤ ((c : Nat) : Int) := by omega
  have i6 : ((l.length : Nat) : Int) ≤ ((c : Nat) : Int) := by omega
  clear hr hs h1 h2 h3 hbox hblk q0
  unfold StepD.val repl
  go_enter Tryz.func120, Tryz.ntmps120
  go_wp2
  refine wp_region_T (P := Tryz.prog) (fun v => v.cell? ⟨w.heap.size, 1, none⟩ = some (.int .i64 (p : Nat)) ∧ v.cell? ⟨w.heap.size, 2, none⟩ = some (.int .i64 (q : Nat)) ∧ v.cell? ⟨w.heap.size, 6, none⟩ = some (.slice B sl.length cb)) 12 (by kernel_rfl) ?_ (fun hHeld => ?_)
  · first | exact HQ.out _ ((Upd.refl _ _).drew) | exact HQ.out _ (((Upd.refl _ _).alloc _).drew) | exact HQ.out _ ((((Upd.refl _ _).alloc _).drew).trans hu3 (fun _ _ h => h))
  refine zT 0 ?_
  refine zT 1 ?_
  refine zT 2 ?_
  refine zT 3 ?_
  (try simp only [Act.put, List.setIfInBounds_toArray, List.set_cons_zero, List.set_cons_succ])
  refine zT 4 ?_
  refine zT 5 ?_
  refine zT 6 ?_
  refine zT 7 ?_
  (try simp only [Act.put, List.setIfInBounds_toArray, List.set_cons_zero, List.set_cons_succ])
  refine zT 8 ?_
  refine zT 9 ?_
  refine oT 10 (fun K hK => ?_)
  go_simp
  refine hK.out _ _ (fun _ => by first | exact HQ.out _ ((Upd.refl _ _).drew) | exact HQ.out _ (((Upd.refl _ _).alloc _).drew) | exact HQ.out _ ((((Upd.refl _ _).alloc _).drew).trans hu3 (fun _ _ h => h))) (fun hHeld => ?_)
  replace hHeld := hHeld (by decide)
  clear hK K
  (try simp only [Act.put, List.setIfInBounds_toArray, List.set_cons_zero, List.set_cons_succ])
  refine oT 11 (fun K hK => ?_)
  go_simp
  (go_at_call 159; with_reducible refine (HT.out _ ((HB.out.alloc _).drew) _ _ _ (HBK.out _ _)).mono ?_; rintro e w3 ⟨⟨B3, rfl, hrow3⟩, hu3⟩)
  refine hK.out _ _ (fun _ => by first | exact HQ.out _ ((Upd.refl _ _).drew) | exact HQ.out _ (((Upd.refl _ _).alloc _).drew) | exact HQ.out _ ((((Upd.refl _ _).alloc _).drew).trans hu3 (fun _ _ h => h))) (fun hHeld => ?_)
  replace hHeld := hHeld (by decide)
  clear hK K
  (try simp only [Act.put, List.setIfInBounds_toArray, List.set_cons_zero, List.set_cons_succ])
  refine oT 12 (fun K hK => ?_)
  go_simp
  refine hK.out _ _ (fun h => absurd rfl h) (fun hHeld => ?_)
  clear hK K
  (try simp only [Act.put, List.setIfInBounds_toArray, List.set_cons_zero, List.set_cons_succ])
  refine wpAnyT_done (by kernel_rfl) ?_ _
  go_wp2
  all_goals go_ret
  all_goals exact Fresh.of ((HB.out.alloc _).drew) rfl (by first | (simp; done) | (simp; omega)) hrow3 hu3
set_option maxRecDepth 100000 in
set_option maxHeartbeats 4000000 in
theorem do_repl_none {w : World} {G : Nat → Prop} {B : Option Addr} {cb : Nat} {sl : List Tok} (hs : tokR.row w G B sl) (hsc : sl.length ≤ cb) (hb : sl.length ≤ 100000) :
    Calls Tryz.prog 120 #[.slice none 0 0, (repl 0 0 sl).val B cb] w (Fresh w sl) := by
  have hbox := Upd.alloc1 (fun _ => False) w (.cells #[.int .i64 0, .int .i64 0, .int .i64 0, .int .i64 0, .int .i64 0, .int .i64 0, .slice B sl.length cb, .int .i64 0] 46)
  have hblk := heap_alloc_new w (.cells #[.int .i64 0, .int .i64 0, .int .i64 0, .int .i64 0, .int .i64 0, .int .i64 0, .slice B sl.length cb, .int .i64 0] 46)
  have h1 : TokS w (fun _ => True) (.slice none 0 0) [] := ⟨none, 0, rfl, Nat.le_refl _, .inl rfl⟩
  have h2 := TokS.whole hs hsc rfl
  have HT := As.mk (fun (W : World) (hu : Pure w W) (blk : Nat) (e : TypeId) (fr : Nat × Nat) hblk => tokens3 (x0 := []) (x1 := sl) (x2 := []) (by simp; omega) W hu (blk := blk) (e := e) (fr := fr) hblk h1 h2 h1)
  simp only [List.nil_append, List.append_nil] at HT
  have HB := As.mk hbox
  have HBK := As.mk (fun (cs : Array Value) (T : TypeId) => (by
    have h := heap_alloc_new (w.alloc (.cells #[.int .i64 0, .int .i64 0, .int .i64 0, .int .i64 0, .int .i64 0, .int .i64 0, .slice B sl.length cb, .int .i64 0] 46)) (.cells cs T)
    rw [World.size_alloc] at h
    exact h : (((w.alloc (.cells #[.int .i64 0, .int .i64 0, .int .i64 0, .int .i64 0, .int .i64 0, .int .i64 0, .slice B sl.length cb, .int .i64 0] 46)).alloc (.cells cs T)).drew).heap[w.heap.size + 1]? = some (.cells cs T (0, 0))))
  have q0 : ∀ v, Pure (w.alloc (.cells #[.int .i64 0, .int .i64 0, .int .i64 0, .int .i64 0, .int .i64 0, .int .i64 0, .slice B sl.length cb, .int .i64 0] 46)) v → v.cell? ⟨w.heap.size, 1, none⟩ = some (.int .i64 0) ∧ v.cell? ⟨w.heap.size, 2, none⟩ = some (.int .i64 0) ∧ v.cell? ⟨w.heap.size, 6, none⟩ = some (.slice B sl.length cb) := fun v hu => by
    have := (hu.block w.heap.size (by simp) (fun h => h)).trans hblk
    refine ⟨?_, ?_, ?_⟩ <;> (unfold World.cell?; simp only [this]; rfl)
  have HQ := As.mk q0
  clear hs h1 h2 hbox hblk q0
  unfold StepD.val repl
  go_enter Tryz.func120, Tryz.ntmps120
  go_wp2
  refine wp_region_T (P := Tryz.prog) (fun v => v.cell? ⟨w.heap.size, 1, none⟩ = some (.int .i64 0) ∧ v.cell? ⟨w.heap.size, 2, none⟩ = some (.int .i64 0) ∧ v.cell? ⟨w.heap.size, 6, none⟩ = some (.slice B sl.length cb)) 12 (by kernel_rfl) ?_ (fun hHeld => ?_)
  · first | exact HQ.out _ ((Upd.refl _ _).drew) | exact HQ.out _ (((Upd.refl _ _).alloc _).drew) | exact HQ.out _ ((((Upd.refl _ _).alloc _).drew).trans hu3 (fun _ _ h => h))
  refine zT 0 ?_
  refine zT 1 ?_
  refine zT 2 ?_
  (try simp only [Act.put, List.setIfInBounds_toArray, List.set_cons_zero, List.set_cons_succ])
  refine zT 3 ?_
  refine zT 4 ?_
  refine zT 5 ?_
  refine zT 6 ?_
  (try simp only [Act.put, List.setIfInBounds_toArray, List.set_cons_zero, List.set_cons_succ])
  refine zT 7 ?_
  refine zT 8 ?_
  refine zT 9 ?_
  refine oT 10 (fun K hK => ?_)
  go_simp
  refine hK.out _ _ (fun _ => by first | exact HQ.out _ ((Upd.refl _ _).drew) | exact HQ.out _ (((Upd.refl _ _).alloc _).drew) | exact HQ.out _ ((((Upd.refl _ _).alloc _).drew).trans hu3 (fun _ _ h => h))) (fun hHeld => ?_)
  replace hHeld := hHeld (by decide)
  clear hK K
  (try simp only [Act.put, List.setIfInBounds_toArray, List.set_cons_zero, List.set_cons_succ])
  refine oT 11 (fun K hK => ?_)
  go_simp
  (go_at_call 159; with_reducible refine (HT.out _ ((HB.out.alloc _).drew) _ _ _ (HBK.out _ _)).mono ?_; rintro e w3 ⟨⟨B3, rfl, hrow3⟩, hu3⟩)
  refine hK.out _ _ (fun _ => by first | exact HQ.out _ ((Upd.refl _ _).drew) | exact HQ.out _ (((Upd.refl _ _).alloc _).drew) | exact HQ.out _ ((((Upd.refl _ _).alloc _).drew).trans hu3 (fun _ _ h => h))) (fun hHeld => ?_)
  replace hHeld := hHeld (by decide)
  clear hK K
  (try simp only [Act.put, List.setIfInBounds_toArray, List.set_cons_zero, List.set_cons_succ])
  refine oT 12 (fun K hK => ?_)
  go_simp
  refine hK.out _ _ (fun h => absurd rfl h) (fun hHeld => ?_)
  clear hK K
  (try simp only [Act.put, List.setIfInBounds_toArray, List.set_cons_zero, List.set_cons_succ])
  refine wpAnyT_done (by kernel_rfl) ?_ _
  go_wp2
  all_goals go_ret
  all_goals exact Fresh.of ((HB.out.alloc _).drew) rfl (by first | (simp; done) | (simp; omega)) hrow3 hu3
theorem tokens5 {w : World} {F0 F1 F2 F3 F4 : Nat → Prop} {x0 x1 x2 x3 x4 : List Tok} (hb : x0.length + x1.length + x2.length + x3.length + x4.length ≤ 1048576) (W : World) (hu : Pure w W) {v0 v1 v2 v3 v4 : Value} {blk : Nat} {e : TypeId} {fr : Nat × Nat} (hblk : W.heap[blk]? = some (.cells #[v0, v1, v2, v3, v4] e fr)) (h0 : TokS w F0 v0 x0) (h1 : TokS w F1 v1 x1) (h2 : TokS w F2 v2 x2) (h3 : TokS w F3 v3 x3) (h4 : TokS w F4 v4 x4) :
    Calls Tryz.prog 159 #[.slice (some ⟨blk, 0, none⟩) 5 5] W fun r w' => (∃ B, r = .returned (.slice (some B) (x0 ++ (x1 ++ (x2 ++ (x3 ++ x4)))).length (x0 ++ (x1 ++ (x2 ++ (x3 ++ x4)))).length) ∧ tokR.row w' (fun k => W.heap.size ≤ k) (some B) (x0 ++ (x1 ++ (x2 ++ (x3 ++ x4))))) ∧ Pure W w' := by
  have hr : toksR.row W (fun _ => True) (some ⟨blk, 0, none⟩) [x0, x1, x2, x3, x4] := toks_box (vs := [v0, v1, v2, v3, v4]) hblk trivial rfl (fun j v x hv hx => by
    match j, hv, hx with
    | 0, hv, hx => simp at hv hx; subst hv hx; exact (h0.pure hu).fp
    | 1, hv, hx => simp at hv hx; subst hv hx; exact (h1.pure hu).fp
    | 2, hv, hx => simp at hv hx; subst hv hx; exact (h2.pure hu).fp
    | 3, hv, hx => simp at hv hx; subst hv hx; exact (h3.pure hu).fp
    | 4, hv, hx => simp at hv hx; subst hv hx; exact (h4.pure hu).fp
    | j + 5, hv, hx => simp at hv)
  have h := tokens_calls (c := 5) hr (Nat.le_refl _) (by simp) (by simp [sumL]; omega)
  have e : ([x0, x1, x2, x3, x4] : List (List Tok)).flatten = x0 ++ (x1 ++ (x2 ++ (x3 ++ x4))) := by simp
  rw [e] at h
  exact h
set_option maxRecDepth 100000 in
set_option maxHeartbeats 4000000 in
theorem do_arnd_some {w : World} {F G : Nat → Prop} {b o b2 o2 : Nat} {c cb : Nat} {l sl : List Tok} {p q g h n : Nat} (hr : tokR.row w F (some ⟨b, o, none⟩) l) (hlc : l.length ≤ c) (hs : tokR.row w G (some ⟨b2, o2, none⟩) sl) (hsc : sl.length ≤ cb) (hb : l.length + sl.length ≤ 100000) (hn : n ≤ sl.length) (hp : p ≤ g) (hg : g < h) (hh : h ≤ q) (hq : q ≤ l.length) :
    Calls Tryz.prog 120 #[.slice (some ⟨b, o, none⟩) l.length c, (arnd p q g h (n : Nat) sl).val (some ⟨b2, o2, none⟩) cb] w (Fresh w (l.take p ++ (sl.take n ++ ((l.take h).drop g ++ (sl.drop n ++ l.drop q))))) := by
  have hbox := Upd.alloc1 (fun _ => False) w (.cells #[.int .i64 1, .int .i64 (p : Nat), .int .i64 (q : Nat), .int .i64 (g : Nat), .int .i64 (h : Nat), .int .i64 (n : Nat), .slice (some ⟨b2, o2, none⟩) sl.length cb, .int .i64 0] 46)
  have hblk := heap_alloc_new w (.cells #[.int .i64 1, .int .i64 (p : Nat), .int .i64 (q : Nat), .int .i64 (g : Nat), .int .i64 (h : Nat), .int .i64 (n : Nat), .slice (some ⟨b2, o2, none⟩) sl.length cb, .int .i64 0] 46)
  have h1 := TokS.take (m := p) hr (by omega) hlc rfl
  have h2 := TokS.take (m := n) hs (by omega) hsc rfl
  have h3 := TokS.mid (g := g) (h := h) (m := h - g) (c' := c - g) hr (by omega) hlc rfl rfl
  have h4 := TokS.cut (n := n) (m := sl.length - n) (c' := cb - n) hs (by omega) hsc rfl rfl
  have h5 := TokS.cut (n := q) (m := l.length - q) (c' := c - q) hr hq hlc rfl rfl
  have HT := As.mk (fun (W : World) (hu : Pure w W) (blk : Nat) (e : TypeId) (fr : Nat × Nat) hblk => tokens5 (x0 := l.take p) (x1 := sl.take n) (x2 := (l.take h).drop g) (x3 := sl.drop n) (x4 := l.drop q) (by simp only [List.length_take, List.length_drop, List.length_nil]; omega) W hu (blk := blk) (e := e) (fr := fr) hblk h1 h2 h3 h4 h5)
  have HB := As.mk hbox
  have HBK := As.mk (fun (cs : Array Value) (T : TypeId) => (by
    have h := heap_alloc_new (w.alloc (.cells #[.int .i64 1, .int .i64 (p : Nat), .int .i64 (q : Nat), .int .i64 (g : Nat), .int .i64 (h : Nat), .int .i64 (n : Nat), .slice (some ⟨b2, o2, none⟩) sl.length cb, .int .i64 0] 46)) (.cells cs T)
    rw [World.size_alloc] at h
    exact h : (((w.alloc (.cells #[.int .i64 1, .int .i64 (p : Nat), .int .i64 (q : Nat), .int .i64 (g : Nat), .int .i64 (h : Nat), .int .i64 (n : Nat), .slice (some ⟨b2, o2, none⟩) sl.length cb, .int .i64 0] 46)).alloc (.cells cs T)).drew).heap[w.heap.size + 1]? = some (.cells cs T (0, 0))))
  have q0 : ∀ v, Pure (w.alloc (.cells #[.int .i64 1, .int .i64 (p : Nat), .int .i64 (q : Nat), .int .i64 (g : Nat), .int .i64 (h : Nat), .int .i64 (n : Nat), .slice (some ⟨b2, o2, none⟩) sl.length cb, .int .i64 0] 46)) v → (fun v => v.cell? ⟨w.heap.size, 0, none⟩ = some (.int .i64 1) ∧ v.cell? ⟨w.heap.size, 1, none⟩ = some (.int .i64 (p : Nat)) ∧ v.cell? ⟨w.heap.size, 2, none⟩ = some (.int .i64 (q : Nat)) ∧ v.cell? ⟨w.heap.size, 3, none⟩ = some (.int .i64 (g : Nat)) ∧ v.cell? ⟨w.heap.size, 4, none⟩ = some (.int .i64 (h : Nat)) ∧ v.cell? ⟨w.heap.size, 5, none⟩ = some (.int .i64 (n : Nat)) ∧ v.cell? ⟨w.heap.size, 6, none⟩ = some (.slice (some ⟨b2, o2, none⟩) sl.length cb)) v := fun v hu => by
    have := (hu.block w.heap.size (by simp) (fun h => h)).trans hblk
    refine ⟨?_, ?_, ?_, ?_, ?_, ?_, ?_⟩ <;> (unfold World.cell?; simp only [this]; rfl)
  have HQ := As.mk q0
  have i1 : (0 : Int) ≤ ((p : Nat) : Int) := by omega
  have i2 : ((p : Nat) : Int) ≤ ((c : Nat) : Int) := by omega
  have i3 : (0 : Int) ≤ ((q : Nat) : Int) := by omega
  have i4 : ((q : Nat) : Int) ≤ ((l.length : Nat) : Int) := by omega
  have i5 : ((q : Nat) : Int) ≤ ((c : Nat) : Int) := by omega
  have i6 : ((l.length : Nat) : Int) ≤ ((c : Nat) : Int) := by omega
  have i7 : (0 : Int) ≤ ((g : Nat) : Int) := by omega
  have i8 : ((g : Nat) : Int) ≤ ((h : Nat) : Int) := by omega
  have i9 : ((h : Nat) : Int) ≤ ((c : Nat) : Int) := by omega
  have j1 : (0 : Int) ≤ ((h : Nat) : Int) := by omega
  have j2 : ¬ c = g := by omega
  have k1 : (0 : Int) ≤ ((n : Nat) : Int) := by omega
  have k2 : ((n : Nat) : Int) ≤ ((cb : Nat) : Int) := by omega
  have k3 : ((n : Nat) : Int) ≤ ((sl.length : Nat) : Int) := by omega
  have k4 : ((sl.length : Nat) : Int) ≤ ((cb : Nat) : Int) := by omega
  clear hr h1 h2 h3 h4 h5 hbox hblk q0 hs
  unfold StepD.val arnd
  go_enter Tryz.func120, Tryz.ntmps120
  go_wp2
  refine wp_region_T (P := Tryz.prog) (fun v => v.cell? ⟨w.heap.size, 0, none⟩ = some (.int .i64 1) ∧ v.cell? ⟨w.heap.size, 1, none⟩ = some (.int .i64 (p : Nat)) ∧ v.cell? ⟨w.heap.size, 2, none⟩ = some (.int .i64 (q : Nat)) ∧ v.cell? ⟨w.heap.size, 3, none⟩ = some (.int .i64 (g : Nat)) ∧ v.cell? ⟨w.heap.size, 4, none⟩ = some (.int .i64 (h : Nat)) ∧ v.cell? ⟨w.heap.size, 5, none⟩ = some (.int .i64 (n : Nat)) ∧ v.cell? ⟨w.heap.size, 6, none⟩ = some (.slice (some ⟨b2, o2, none⟩) sl.length cb)) 26 (by kernel_rfl) ?_ (fun hHeld => ?_)
  · first | exact HQ.out _ ((Upd.refl _ _).drew) | exact HQ.out _ (((Upd.refl _ _).alloc _).drew) | exact HQ.out _ ((((Upd.refl _ _).alloc _).drew).trans hu3 (fun _ _ h => h))
  refine zT 0 ?_
  refine zT 1 ?_
  (try simp only [Act.put, List.setIfInBounds_toArray, List.set_cons_zero, List.set_cons_succ])
  refine zT 2 ?_
  refine zT 3 ?_
  refine zT 4 ?_
  refine zT 5 ?_
  (try simp only [Act.put, List.setIfInBounds_toArray, List.set_cons_zero, List.set_cons_succ])
  refine zT 6 ?_
  refine zT 7 ?_
  refine zT 8 ?_
  refine zT 9 ?_
  (try simp only [Act.put, List.setIfInBounds_toArray, List.set_cons_zero, List.set_cons_succ])
  refine zT 10 ?_
  refine zT 11 ?_
  refine zT 12 ?_
  refine zT 13 ?_
  (try simp only [Act.put, List.setIfInBounds_toArray, List.set_cons_zero, List.set_cons_succ])
  refine zT 14 ?_
  refine zT 15 ?_
  refine zT 16 ?_
  refine zT 17 ?_
  (try simp only [Act.put, List.setIfInBounds_toArray, List.set_cons_zero, List.set_cons_succ])
  refine zT 18 ?_
  refine zT 19 ?_
  refine zT 20 ?_
  refine zT 21 ?_
  (try simp only [Act.put, List.setIfInBounds_toArray, List.set_cons_zero, List.set_cons_succ])
  refine zT 22 ?_
  refine zT 23 ?_
  refine oT 24 (fun K hK => ?_)
  go_simp
  refine hK.out _ _ (fun _ => by first | exact HQ.out _ ((Upd.refl _ _).drew) | exact HQ.out _ (((Upd.refl _ _).alloc _).drew) | exact HQ.out _ ((((Upd.refl _ _).alloc _).drew).trans hu3 (fun _ _ h => h))) (fun hHeld => ?_)
  replace hHeld := hHeld (by decide)
  clear hK K
  (try simp only [Act.put, List.setIfInBounds_toArray, List.set_cons_zero, List.set_cons_succ])
  refine oT 25 (fun K hK => ?_)
  go_simp
  (go_at_call 159; with_reducible refine (HT.out _ ((HB.out.alloc _).drew) _ _ _ (HBK.out _ _)).mono ?_; rintro e w3 ⟨⟨B3, rfl, hrow3⟩, hu3⟩)
  refine hK.out _ _ (fun _ => by first | exact HQ.out _ ((Upd.refl _ _).drew) | exact HQ.out _ (((Upd.refl _ _).alloc _).drew) | exact HQ.out _ ((((Upd.refl _ _).alloc _).drew).trans hu3 (fun _ _ h => h))) (fun hHeld => ?_)
  replace hHeld := hHeld (by decide)
  clear hK K
  (try simp only [Act.put, List.setIfInBounds_toArray, List.set_cons_zero, List.set_cons_succ])
  refine oT 26 (fun K hK => ?_)
  go_simp
  refine hK.out _ _ (fun h => absurd rfl h) (fun hHeld => ?_)
  clear hK K
  (try simp only [Act.put, List.setIfInBounds_toArray, List.set_cons_zero, List.set_cons_succ])
  refine wpAnyT_done (by kernel_rfl) ?_ _
  go_wp2
  all_goals go_ret
  all_goals exact Fresh.of ((HB.out.alloc _).drew) rfl (by first | (simp; done) | (simp; omega)) hrow3 hu3
set_option maxRecDepth 100000 in
set_option maxHeartbeats 4000000 in
theorem do_arnd_none {w : World} {F : Nat → Prop} {b o : Nat} {c : Nat} {l : List Tok} {p q g h : Nat} (hr : tokR.row w F (some ⟨b, o, none⟩) l) (hlc : l.length ≤ c) (hb : l.length ≤ 100000) (hp : p ≤ g) (hg : g < h) (hh : h ≤ q) (hq : q ≤ l.length) :
    Calls Tryz.prog 120 #[.slice (some ⟨b, o, none⟩) l.length c, (arnd p q g h 0 []).val none 0] w (Fresh w (l.take p ++ ((l.take h).drop g ++ l.drop q))) := by
  have hbox := Upd.alloc1 (fun _ => False) w (.cells #[.int .i64 1, .int .i64 (p : Nat), .int .i64 (q : Nat), .int .i64 (g : Nat), .int .i64 (h : Nat), .int .i64 0, .slice none 0 0, .int .i64 0] 46)
  have hblk := heap_alloc_new w (.cells #[.int .i64 1, .int .i64 (p : Nat), .int .i64 (q : Nat), .int .i64 (g : Nat), .int .i64 (h : Nat), .int .i64 0, .slice none 0 0, .int .i64 0] 46)
  have h1 := TokS.take (m := p) hr (by omega) hlc rfl
  have h2 := (⟨none, 0, rfl, Nat.le_refl _, .inl rfl⟩ : TokS w (fun _ => True) (.slice none 0 0) ([] : List Tok))
  have h3 := TokS.mid (g := g) (h := h) (m := h - g) (c' := c - g) hr (by omega) hlc rfl rfl
  have h4 := h2
  have h5 := TokS.cut (n := q) (m := l.length - q) (c' := c - q) hr hq hlc rfl rfl
  have HT := As.mk (fun (W : World) (hu : Pure w W) (blk : Nat) (e : TypeId) (fr : Nat × Nat) hblk => tokens5 (x0 := l.take p) (x1 := []) (x2 := (l.take h).drop g) (x3 := []) (x4 := l.drop q) (by simp only [List.length_take, List.length_drop, List.length_nil]; omega) W hu (blk := blk) (e := e) (fr := fr) hblk h1 h2 h3 h4 h5)
  simp only [List.nil_append] at HT
  have HB := As.mk hbox
  have HBK := As.mk (fun (cs : Array Value) (T : TypeId) => (by
    have h := heap_alloc_new (w.alloc (.cells #[.int .i64 1, .int .i64 (p : Nat), .int .i64 (q : Nat), .int .i64 (g : Nat), .int .i64 (h : Nat), .int .i64 0, .slice none 0 0, .int .i64 0] 46)) (.cells cs T)
    rw [World.size_alloc] at h
    exact h : (((w.alloc (.cells #[.int .i64 1, .int .i64 (p : Nat), .int .i64 (q : Nat), .int .i64 (g : Nat), .int .i64 (h : Nat), .int .i64 0, .slice none 0 0, .int .i64 0] 46)).alloc (.cells cs T)).drew).heap[w.heap.size + 1]? = some (.cells cs T (0, 0))))
  have q0 : ∀ v, Pure (w.alloc (.cells #[.int .i64 1, .int .i64 (p : Nat), .int .i64 (q : Nat), .int .i64 (g : Nat), .int .i64 (h : Nat), .int .i64 0, .slice none 0 0, .int .i64 0] 46)) v → (fun v => v.cell? ⟨w.heap.size, 0, none⟩ = some (.int .i64 1) ∧ v.cell? ⟨w.heap.size, 1, none⟩ = some (.int .i64 (p : Nat)) ∧ v.cell? ⟨w.heap.size, 2, none⟩ = some (.int .i64 (q : Nat)) ∧ v.cell? ⟨w.heap.size, 3, none⟩ = some (.int .i64 (g : Nat)) ∧ v.cell? ⟨w.heap.size, 4, none⟩ = some (.int .i64 (h : Nat)) ∧ v.cell? ⟨w.heap.size, 5, none⟩ = some (.int .i64 0) ∧ v.cell? ⟨w.heap.size, 6, none⟩ = some (.slice none 0 0)) v := fun v hu => by
    have := (hu.block w.heap.size (by simp) (fun h => h)).trans hblk
    refine ⟨?_, ?_, ?_, ?_, ?_, ?_, ?_⟩ <;> (unfold World.cell?; simp only [this]; rfl)
  have HQ := As.mk q0
  have i1 : (0 : Int) ≤ ((p : Nat) : Int) := by omega
  have i2 : ((p : Nat) : Int) ≤ ((c : Nat) : Int) := by omega
  have i3 : (0 : Int) ≤ ((q : Nat) : Int) := by omega
  have i4 : ((q : Nat) : Int) ≤ ((l.length : Nat) : Int) := by omega
  have i5 : ((q : Nat) : Int) ≤ ((c : Nat) : Int) := by omega
  have i6 : ((l.length : Nat) : Int) ≤ ((c : Nat) : Int) := by omega
  have i7 : (0 : Int) ≤ ((g : Nat) : Int) := by omega
  have i8 : ((g : Nat) : Int) ≤ ((h : Nat) : Int) := by omega
  have i9 : ((h : Nat) : Int) ≤ ((c : Nat) : Int) := by omega
  have j1 : (0 : Int) ≤ ((h : Nat) : Int) := by omega
  have j2 : ¬ c = g := by omega
  clear hr h1 h2 h3 h4 h5 hbox hblk q0
  unfold StepD.val arnd
  go_enter Tryz.func120, Tryz.ntmps120
  go_wp2
  refine wp_region_T (P := Tryz.prog) (fun v => v.cell? ⟨w.heap.size, 0, none⟩ = some (.int .i64 1) ∧ v.cell? ⟨w.heap.size, 1, none⟩ = some (.int .i64 (p : Nat)) ∧ v.cell? ⟨w.heap.size, 2, none⟩ = some (.int .i64 (q : Nat)) ∧ v.cell? ⟨w.heap.size, 3, none⟩ = some (.int .i64 (g : Nat)) ∧ v.cell? ⟨w.heap.size, 4, none⟩ = some (.int .i64 (h : Nat)) ∧ v.cell? ⟨w.heap.size, 5, none⟩ = some (.int .i64 0) ∧ v.cell? ⟨w.heap.size, 6, none⟩ = some (.slice none 0 0)) 26 (by kernel_rfl) ?_ (fun hHeld => ?_)
  · first | exact HQ.out _ ((Upd.refl _ _).drew) | exact HQ.out _ (((Upd.refl _ _).alloc _).drew) | exact HQ.out _ ((((Upd.refl _ _).alloc _).drew).trans hu3 (fun _ _ h => h))
  refine zT 0 ?_
  refine zT 1 ?_
  refine zT 2 ?_
  (try simp only [Act.put, List.setIfInBounds_toArray, List.set_cons_zero, List.set_cons_succ])
  refine zT 3 ?_
  refine zT 4 ?_
  refine zT 5 ?_
  refine zT 6 ?_
  (try simp only [Act.put, List.setIfInBounds_toArray, List.set_cons_zero, List.set_cons_succ])
  refine zT 7 ?_
  refine zT 8 ?_
  refine zT 9 ?_
  refine zT 10 ?_
  (try simp only [Act.put, List.setIfInBounds_toArray, List.set_cons_zero, List.set_cons_succ])
  refine zT 11 ?_
  refine zT 12 ?_
  refine zT 13 ?_
  refine zT 14 ?_
  (try simp only [Act.put, List.setIfInBounds_toArray, List.set_cons_zero, List.set_cons_succ])
  refine zT 15 ?_
  refine zT 16 ?_
  refine zT 17 ?_
  refine zT 18 ?_
  (try simp only [Act.put, List.setIfInBounds_toArray, List.set_cons_zero, List.set_cons_succ])
  refine zT 19 ?_
  refine zT 20 ?_
  refine zT 21 ?_
  refine zT 22 ?_
  (try simp only [Act.put, List.setIfInBounds_toArray, List.set_cons_zero, List.set_cons_succ])
  refine zT 23 ?_
  refine oT 24 (fun K hK => ?_)
  go_simp
  refine hK.out _ _ (fun _ => by first | exact HQ.out _ ((Upd.refl _ _).drew) | exact HQ.out _ (((Upd.refl _ _).alloc _).drew) | exact HQ.out _ ((((Upd.refl _ _).alloc _).drew).trans hu3 (fun _ _ h => h))) (fun hHeld => ?_)
  replace hHeld := hHeld (by decide)
  clear hK K
  (try simp only [Act.put, List.setIfInBounds_toArray, List.set_cons_zero, List.set_cons_succ])
  refine oT 25 (fun K hK => ?_)
  go_simp
  (go_at_call 159; with_reducible refine (HT.out _ ((HB.out.alloc _).drew) _ _ _ (HBK.out _ _)).mono ?_; rintro e w3 ⟨⟨B3, rfl, hrow3⟩, hu3⟩)
  refine hK.out _ _ (fun _ => by first | exact HQ.out _ ((Upd.refl _ _).drew) | exact HQ.out _ (((Upd.refl _ _).alloc _).drew) | exact HQ.out _ ((((Upd.refl _ _).alloc _).drew).trans hu3 (fun _ _ h => h))) (fun hHeld => ?_)
  replace hHeld := hHeld (by decide)
  clear hK K
  (try simp only [Act.put, List.setIfInBounds_toArray, List.set_cons_zero, List.set_cons_succ])
  refine oT 26 (fun K hK => ?_)
  go_simp
  refine hK.out _ _ (fun h => absurd rfl h) (fun hHeld => ?_)
  clear hK K
  (try simp only [Act.put, List.setIfInBounds_toArray, List.set_cons_zero, List.set_cons_succ])
  refine wpAnyT_done (by kernel_rfl) ?_ _
  go_wp2
  all_goals go_ret
  all_goals exact Fresh.of ((HB.out.alloc _).drew) rfl (by first | (simp; done) | (simp; omega)) hrow3 hu3
end Go.Proofs.YtfapglhdakhbeaaGreatDoor
