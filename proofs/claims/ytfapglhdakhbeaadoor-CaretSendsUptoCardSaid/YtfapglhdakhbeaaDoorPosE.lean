/- pos.each: its iterator's contract. -/
import Derived.Test.YtfapglhdakhbeaaDoorRng
import Derived.Test.YtfapglhdakhbeaaDoorCaretI
namespace Go.Proofs.YtfapglhdakhbeaaDoor
open Go.RowKit Go.Shelf
set_option linter.unusedVariables false
set_option linter.unusedSimpArgs false

attribute [local go_sem] Oper.semAt_some

set_option maxRecDepth 100000 in
set_option maxHeartbeats 4000000 in
theorem each_calls (w : World) (A : Option Addr) (n c : Nat) : Calls Tryd.prog 12 #[.slice A n c] w fun r w' => r = .returned (.func (.func 20) #[] #[.pointer (some ⟨w.heap.size, 0, none⟩)]) ∧ w' = w.alloc (.cells #[.slice A n c] 22) := by
  go_enter Tryd.func12, Tryd.ntmps12
  go_wp2
  go_ret
  exact ⟨rfl, rfl⟩
theorem rightM_at : ∀ (m : List Rng) (last : Int), rightM last m = true → ∀ x ∈ m, x.at0 ≤ 65536 ∧ x.old ≤ 65536 ∧ x.new ≤ 65536 ∧ 0 ≤ x.old ∧ 0 ≤ x.new ∧ last ≤ x.at0 := by
  intro m
  induction m with
  | nil => intro last _ x hx; cases hx
  | cons r t ih =>
    intro last h x hx
    rw [rightM] at h
    split at h
    · rename_i hr
      rcases List.mem_cons.1 hx with rfl | hx
      · exact ⟨hr.2.1, hr.2.2.1, hr.2.2.2.1, hr.2.2.2.2.1, hr.2.2.2.2.2, hr.1⟩
      · have h1 := ih _ h x hx
        exact ⟨h1.1, h1.2.1, h1.2.2.1, h1.2.2.2.1, h1.2.2.2.2.1, by have := hr.1; have := hr.2.2.2.2.1; omega⟩
    · cases h
/-- How far what stands at place k has moved. -/
def dsum (m : List Rng) (k : Nat) : Int := ((m.take k).map (fun r => r.new - r.old)).sum
theorem dsum_succ {m : List Rng} {k : Nat} {x : Rng} (hx : m[k]? = some x) : dsum m (k + 1) = dsum m k + (x.new - x.old) := by
  unfold dsum
  rw [List.take_add_one, hx]
  simp
theorem dsum_le {m : List Rng} (h : ∀ x ∈ m, x.at0 ≤ 65536 ∧ x.old ≤ 65536 ∧ x.new ≤ 65536 ∧ 0 ≤ x.old ∧ 0 ≤ x.new ∧ (0 : Int) ≤ x.at0) : ∀ k : Nat, k ≤ m.length → -65536 * (k : Int) ≤ dsum m k ∧ dsum m k ≤ 65536 * (k : Int) := by
  intro k
  induction k with
  | zero => intro _; simp [dsum]
  | succ k ih =>
    intro hk
    obtain ⟨x, hx⟩ : ∃ x, m[k]? = some x := ⟨_, List.getElem?_eq_getElem (by omega)⟩
    have h1 := h x (List.mem_of_getElem? hx)
    have h2 := ih (by omega)
    rw [dsum_succ hx]
    omega
/-- The places of the ranges, in order. -/
def finL (n : Nat) : List (Fin n) := List.ofFn (fun i : Fin n => i)
theorem finL_take {n k : Nat} (hk : k < n) : (finL n).take (k + 1) = (finL n).take k ++ [⟨k, hk⟩] := by
  unfold finL
  rw [List.take_add_one, List.getElem?_ofFn]
  simp [hk]
/-- What a round keeps: all below n₀, and all from B on. -/
def KpU (n₀ B : Nat) (W W' : World) : Prop := Upd (fun k => n₀ ≤ k ∧ (k < B ∨ ∃ o, W.heap[k]? = some o ∧ o.isCells = false)) W W'
theorem KpU.trans {n₀ B : Nat} {X Y Z : World} (h : KpU n₀ B X Y) (k : KpU n₀ B Y Z) : KpU n₀ B X Z := by
  have h' : Upd (fun k => n₀ ≤ k ∧ (k < B ∨ ∃ o, X.heap[k]? = some o ∧ o.isCells = false)) X Y := h
  refine Upd.trans h k (fun j hj hs => ⟨hs.1, ?_⟩)
  rcases hs.2 with h1 | ⟨o, h1, h2⟩
  · exact .inl h1
  · rcases Nat.lt_or_ge j B with h3 | h3
    · exact .inl h3
    · refine .inr ?_
      by_cases h4 : ∃ o, X.heap[j]? = some o ∧ o.isCells = false
      · exact h4
      · have h5 := h'.block j hj (fun h => by
          rcases h.2 with h6 | h6
          · omega
          · exact h4 h6)
        exact ⟨o, h5.symm.trans h1, h2⟩
/-- What the iterator tells of one. -/
def encE (m : List Rng) (k : Fin m.length) : Array Value := #[.int .i64 ((k.val : Nat) : Int), .int .i64 (m[k.val].at0 + dsum m k.val)]
set_option maxRecDepth 100000 in
set_option maxHeartbeats 4000000 in
theorem each_stops (n : Nat) (hn : 1 ≤ n) {w0 w : World} {F : Nat → Prop} {A : Option Addr} {c : Nat} {m : List Rng} {B : Nat} (hr : rngR.row w0 F A m) (hm : rightB' m = true) (hw : Pure w0 w) (hB0 : w0.heap.size ≤ B) (hB : B < w.heap.size) (hbx : w.cell? ⟨B, 0, none⟩ = some (.slice A m.length c)) :
    SeqStopsK Fence.wide n Tryd.prog 20 #[.pointer (some ⟨B, 0, none⟩)] (encE m) (KpU w0.heap.size B) (fun ys => ys = finL m.length) (fun pre => pre <+: finL m.length) m.length w := fun lp J Jx W hW hJ hJx hY h0 => by
  have hWu : Pure w W := Upd.of_below hW
  have hx1 := (hWu.cell (o := 0) hB (fun h => h)).trans hbx
  have hm2 : rightM 0 m = true ∧ m.length ≤ 4 := by
    unfold rightB' at hm
    rw [Bool.and_eq_true, decide_eq_true_eq] at hm
    exact hm
  have HR := As.mk hr
  have HM := As.mk (rightM_at m 0 hm2.1)
  have hm4 := hm2.2
  have hw0 := As.mk (hw.trans hWu (fun _ _ h => h))
  have hWB : B < W.heap.size := Nat.lt_of_lt_of_le hB hWu.size
  clear hr hm hm2 hbx
  refine callsIn_of_wp Tryd.func20 rfl trivial ?_ rfl
  simp only [Tryd.ntmps20, List.size_toArray, List.length_cons, List.length_nil, Nat.reduceAdd, Nat.reduceSub, Array.replicate_succ, Array.replicate_zero, List.push_toArray, List.append_toArray, List.nil_append, List.cons_append]
  gi_wp2
  gi_loopw [3, 8] (fun dv kv wr => ∃ (k : Nat) (d : Int), kv = .int .i64 k ∧ dv = .int .i64 d ∧ k ≤ m.length ∧ As (d = dsum m k) ∧ -65536 * (k : Int) ≤ d ∧ d ≤ 65536 * (k : Int) ∧ As (J ((finL m.length).take k) wr) ∧ As (Pure w0 wr ∧ W.heap.size ≤ wr.heap.size))
    (fun _ kv _ => m.length - (intOf kv).toNat)
  case atStart => exact ⟨0, 0, rfl, rfl, Nat.zero_le _, ⟨rfl⟩, by omega, by omega, ⟨h0⟩, ⟨hw0.out, Nat.le_refl _⟩⟩
  case round =>
    obtain ⟨k, d, rfl, rfl, hk, HD, hd1, hd2, HJ, HU⟩ := hrel
    by_cases hlt : k < m.length
    · obtain ⟨x, hx⟩ : ∃ x, m[k]? = some x := ⟨_, List.getElem?_eq_getElem hlt⟩
      obtain ⟨b, o, rfl, hFb, hbb, d0, d1, d2⟩ := rng_at (Rp.row_pure HR.out HU.out.1) hx
      obtain ⟨x1, x2, x3, x4, x5, x6⟩ := HM.out x (List.mem_of_getElem? hx)
      have hwa : IntKind.i64.wrap (x.at0 + d) = x.at0 + d := IntWalk.i64_in _ (by omega)
      have hwb : IntKind.i64.wrap (x.new - x.old) = x.new - x.old := IntWalk.i64_in _ (by omega)
      have hwc : IntKind.i64.wrap (d + (x.new - x.old)) = d + (x.new - x.old) := IntWalk.i64_in _ (by omega)
      have hwk : IntKind.i64.wrap ((k : Int) + 1) = (k : Int) + 1 := IntWalk.i64_in _ (by omega)
      obtain ⟨W1, hW1⟩ : ∃ W1, W1 = wr.alloc (.cells #[.int .i64 x.at0, .int .i64 x.old, .int .i64 x.new] 47) := ⟨_, rfl⟩
      have hp1 : Pure wr W1 := hW1 ▸ Upd.alloc1 _ _ _
      have hJ1 := hJ _ _ _ none HJ.out (pure_grown hp1) (fun _ e => by cases e)
      have hpl : ((finL m.length).take k).length = k := by simp [finL]; omega
      obtain ⟨fn, tmps, assign, body, hy, hR⟩ := hY _ ⟨k, hlt⟩ W1 hJ1 (by rw [hpl]; exact hlt)
      have hxe : m[k] = x := by
        have := List.getElem?_eq_getElem hlt
        rw [hx] at this
        exact (Option.some.inj this).symm
      unfold encE at hy
      simp only [hxe, ← HD.out] at hy
      have hb1 : W1.heap[wr.heap.size]? = some (.cells #[.int .i64 x.at0, .int .i64 x.old, .int .i64 x.new] 47 (0, 0)) := hW1 ▸ heap_alloc_new wr _
      have HB1 := As.mk hb1
      have HP1 := As.mk hp1
      have HX := As.mk hx
      have HRR := As.mk hR
      have q0 : W1.cell? ⟨wr.heap.size, 0, none⟩ = some (.int .i64 x.at0) := by unfold World.cell?; simp only [hb1]; rfl
      clear hxe hp1 hb1 hx hR
      subst hW1
      have hsz1 : As (wr.heap.size < (wr.alloc (.cells #[.int .i64 x.at0, .int .i64 x.old, .int .i64 x.new] 47)).heap.size) := ⟨by simp⟩
      gi_wp2
      refine HRR.out.mono ?_
      rintro e W3 (⟨rfl, hJ3, hk3⟩ | ⟨rfl, hJx3⟩)
      · have hb3 := (hk3.block wr.heap.size hsz1.out (fun h => by
          have := HU.out.2
          rcases h.2 with h1 | ⟨o, h1, h2⟩
          · omega
          · rw [HB1.out] at h1
            cases h1
            cases h2)).trans HB1.out
        have q1 : W3.cell? ⟨wr.heap.size, 1, none⟩ = some (.int .i64 x.old) := by unfold World.cell?; simp only [hb3]; rfl
        have q2 : W3.cell? ⟨wr.heap.size, 2, none⟩ = some (.int .i64 x.new) := by unfold World.cell?; simp only [hb3]; rfl
        have HU3 := As.mk (And.intro (show Pure w0 W3 from Upd.trans (HU.out.1.trans HP1.out (fun _ _ h => h)) hk3 (fun k hk h => by have := h.1; omega)) (show W.heap.size ≤ W3.heap.size by have := HU.out.2; have := hk3.size; have := hsz1.out; omega))
        have HJ3 := As.mk hJ3
        have HDS := As.mk (show d + (x.new - x.old) = dsum m (k + 1) by rw [dsum_succ HX.out, HD.out])
        clear hb3 hJ3 hk3
        gi_wp2
        go_roundw
        case measure => simp only [intOf]; omega
        case rel => exact ⟨k + 1, d + (x.new - x.old), by first | rfl | go_num, rfl, by omega, HDS, by push_cast; omega, by push_cast; omega, ⟨by rw [finL_take hlt]; exact HJ3.out⟩, HU3⟩
      · gi_wp2
        refine bodyPost_ret (results_none rfl _ _ _) rfl ?_
        exact ⟨⟨_, rfl⟩, .inr ⟨_, by rw [← finL_take hlt]; exact List.take_prefix _ _, hJx3⟩⟩
    · obtain rfl : k = m.length := by omega
      gi_wp2
      go_end0
      refine ⟨⟨_, rfl⟩, .inl ⟨_, rfl, ?_⟩⟩
      have := HJ.out
      rwa [List.take_of_length_le (by simp [finL])] at this
end Go.Proofs.YtfapglhdakhbeaaDoor
