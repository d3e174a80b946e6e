/- The machine of a language: how it lies in memory; reg.machine.join. The machine grows: types and a row of followers more. -/
import Derived.Test.YtfapglhdakhbeaaGreatDoorSl
import Derived.Test.YtfapglhdakhbeaaGreatDoorHeldZ
namespace Go.Proofs.YtfapglhdakhbeaaGreatDoor
open Go.RowKit
set_option linter.unusedVariables false
set_option linter.unusedSimpArgs false

/-- A cell of a row of one-cell elements is set. -/
theorem ownsRow_set {w : World} {e : TypeId} {g len cap n : Nat} {xs : List Value} (h : w.ownsRow 0 e 1 (.slice (some ⟨g, 0, none⟩) len cap) len xs) (hn : n < len) (u : Value) :
    (w.setCell ⟨g, n, none⟩ u).ownsRow 0 e 1 (.slice (some ⟨g, 0, none⟩) len cap) len (xs.set n u) := by
  obtain ⟨h1, h2⟩ := h
  refine ⟨by simpa using h1, ?_⟩
  rcases h2 with ⟨h2, _⟩ | ⟨g', cap', cur, hv, hb, hg, hle, hcm, hcs, htake⟩
  · cases h2
  · simp at hv
    obtain ⟨rfl, rfl⟩ := hv
    refine .inr ⟨g, cap, cur.setIfInBounds n u, rfl, hb, by simp [World.setCell, Array.getElem?_modify, hg], hle, hcm, by simpa using hcs, ?_⟩
    rw [Array.toList_setIfInBounds, ← htake, List.take_set]

/-- Blocks of different element types are two. -/
theorem own_ne {w : World} {e e' : TypeId} {size size' n n' : Nat} {v v' : Value} {xs xs' : List Value} (h : w.ownsRow 0 e size v n xs) (h' : w.ownsRow 0 e' size' v' n' xs') (he : e ≠ e') : ∀ k, v.ownBlock = some k → v'.ownBlock ≠ some k := by
  intro k hk hk'
  rcases h.2 with ⟨rfl, _⟩ | ⟨g, cap, cur, rfl, _, hg, _⟩
  · cases hk
  · rcases h'.2 with ⟨rfl, _⟩ | ⟨g', cap', cur', rfl, _, hg', _⟩
    · cases hk'
    · simp [Value.ownBlock] at hk hk'
      subst hk hk'
      rw [hg] at hg'
      simp at hg'
      exact he hg'.2
theorem own_ne_block {w : World} {e e' : TypeId} {size n b : Nat} {v : Value} {xs : List Value} {cs : Array Value} {fr : Nat × Nat} (h : w.ownsRow 0 e size v n xs) (hb : w.heap[b]? = some (.cells cs e' fr)) (he : e ≠ e') : v.ownBlock ≠ some b := by
  intro hk
  rcases h.2 with ⟨rfl, _⟩ | ⟨g, cap, cur, rfl, _, hg, _⟩
  · cases hk
  · simp [Value.ownBlock] at hk
    subst hk
    rw [hg] at hb
    simp at hb
    exact he hb.2.1

/-- The rows of followers: each its own block. -/
structure Foll (w : World) (M : Nat → Prop) (v : Value) (fs : List (List Int)) (vs : List Value) : Prop where
  own : w.ownsRow 0 86 1 v fs.length vs
  inM : ∀ k, v.ownBlock = some k → M k
  each : ∀ (i : Nat) (u : Value) (x : List Int), vs[i]? = some u → fs[i]? = some x → intR.own 3 w (fun k => u.ownBlock = some k) u x ∧ ∀ k, u.ownBlock = some k → M k
  two : ∀ (i j : Nat) (u u' : Value) (k : Nat), vs[i]? = some u → vs[j]? = some u' → i ≠ j → u.ownBlock = some k → u'.ownBlock ≠ some k

/-- A machine at block mb: the types of its places, the followers of each; what it may write lies in M. -/
structure Mach (w : World) (B : Nat) (M : Nat → Prop) (mb : Nat) (ts fs : List (List Int)) (b0 b1 b2 tv fv : Value) (vs : List Value) : Prop where
  blk : w.heap[mb]? = some (.cells #[tv, fv, b0, b1, b2] 232 (0, 0))
  mbM : M mb
  low : ∀ k, M k → B ≤ k ∧ k < w.heap.size
  types : intR.slice.own 86 w (fun k => k < B ∨ tv.ownBlock = some k) tv ts
  typesM : ∀ k, tv.ownBlock = some k → M k
  foll : Foll w M fv fs vs
  apart : ∀ k, tv.ownBlock = some k → fv.ownBlock ≠ some k

theorem ownsRow_upd {w w1 : World} {S : Nat → Prop} {e : TypeId} {size n : Nat} {v : Value} {xs : List Value} (h : w.ownsRow 0 e size v n xs) (hu : Upd S w w1) (hs : ∀ k, v.ownBlock = some k → ¬ S k) : w1.ownsRow 0 e size v n xs := by
  refine ⟨h.1, ?_⟩
  rcases h.2 with hn | ⟨g, cap, cur, rfl, hb, hg, rest⟩
  · exact .inl hn
  · refine .inr ⟨g, cap, cur, rfl, hb, ?_, rest⟩
    rw [hu.block g (Array.getElem?_eq_some_iff.1 hg).1 (hs g rfl)]
    exact hg
theorem Foll.upd {w w1 : World} {S M : Nat → Prop} {v : Value} {fs : List (List Int)} {vs : List Value} (h : Foll w M v fs vs) (hu : Upd S w w1) (hs : ∀ k, M k → ¬ S k) : Foll w1 M v fs vs where
  own := ownsRow_upd h.own hu (fun k hk => hs k (h.inM k hk))
  inM := h.inM
  each := fun i u x hu' hx => ⟨Rp.own_upd (h.each i u x hu' hx).1 hu (fun k _ hk => hs k ((h.each i u x hu' hx).2 k hk)), (h.each i u x hu' hx).2⟩
  two := h.two
theorem Mach.upd {w w1 : World} {S : Nat → Prop} {B : Nat} {M : Nat → Prop} {mb : Nat} {ts fs : List (List Int)} {b0 b1 b2 tv fv : Value} {vs : List Value} (h : Mach w B M mb ts fs b0 b1 b2 tv fv vs) (hu : Upd S w w1) (hs : ∀ k, k < w.heap.size → S k → B ≤ k ∧ ¬ M k) : Mach w1 B M mb ts fs b0 b1 b2 tv fv vs where
  blk := by rw [hu.block mb (h.low mb h.mbM).2 (fun hS => (hs mb (h.low mb h.mbM).2 hS).2 h.mbM)]; exact h.blk
  mbM := h.mbM
  low := fun k hk => ⟨(h.low k hk).1, Nat.lt_of_lt_of_le (h.low k hk).2 hu.size⟩
  types := Rp.own_upd h.types hu (fun k hl hk hS => by
    have := hs k hl hS
    rcases hk with hk | hk
    · omega
    · exact this.2 (h.typesM k hk))
  typesM := h.typesM
  foll := h.foll.upd (S := fun k => S k ∧ k < w.heap.size) ⟨hu.os, hu.tape, hu.output, hu.size, fun k hk hn => hu.block k hk (fun hS => hn ⟨hS, hk⟩)⟩ (fun k hk hS => (hs k hS.2 hS.1).2 hk)
  apart := h.apart
theorem Mach.pure {w w1 : World} {B : Nat} {M : Nat → Prop} {mb : Nat} {ts fs : List (List Int)} {b0 b1 b2 tv fv : Value} {vs : List Value} (h : Mach w B M mb ts fs b0 b1 b2 tv fv vs) (hu : Pure w w1) : Mach w1 B M mb ts fs b0 b1 b2 tv fv vs := h.upd hu (fun _ _ h => h.elim)

/-- One row of followers grown, and laid anew into the row of rows. -/
theorem Mach.join1 {w w1 : World} {B : Nat} {M : Nat → Prop} {mb : Nat} {ts fs : List (List Int)} {b0 b1 b2 tv : Value} {fb cap : Nat} {vs : List Value} (h : Mach w B M mb ts fs b0 b1 b2 tv (.slice (some ⟨fb, 0, none⟩) fs.length cap) vs)
    {n : Nat} {x : List Int} {u u1 : Value} (hx : fs[n]? = some x) (hu : vs[n]? = some u) {first : List Int} {F : Nat → Prop} (ho : intR.own 3 w1 F u1 (x ++ first)) (hU : Upd (fun k => u.ownBlock = some k) w w1)
    (hat : u1.ownBlock = u.ownBlock ∨ ∃ b, u1.ownBlock = some b ∧ w.heap.size ≤ b) :
    Mach (w1.setCell ⟨fb, n, none⟩ u1) B (fun k => M k ∨ (w.heap.size ≤ k ∧ k < w1.heap.size)) mb ts (fs.modify n (· ++ first)) b0 b1 b2 tv (.slice (some ⟨fb, 0, none⟩) (fs.modify n (· ++ first)).length cap) (vs.set n u1) ∧
      Upd M w (w1.setCell ⟨fb, n, none⟩ u1) := by
  have hB : B ≤ w.heap.size := by have := h.low mb h.mbM; omega
  have hn : n < fs.length := (List.getElem?_eq_some_iff.1 hx).1
  obtain ⟨hou, huM⟩ := h.foll.each n u x hu hx
  have hfb : M fb := h.foll.inM fb rfl
  have hufb : ∀ k, u.ownBlock = some k → k ≠ fb := by
    rintro k hk rfl
    obtain ⟨inner, h1, _⟩ := hou
    exact own_ne h1 h.foll.own (by decide) k hk rfl
  have hU2 : Upd (fun k => u.ownBlock = some k ∨ k = fb) w (w1.setCell ⟨fb, n, none⟩ u1) := (hU.mono (fun k _ hk => .inl hk)).setCell (p := ⟨fb, n, none⟩) (fun _ => .inr rfl) u1
  have hSM : ∀ k, (u.ownBlock = some k ∨ k = fb) → M k := by
    rintro k (hk | rfl)
    · exact huM k hk
    · exact hfb
  have hmbu : u.ownBlock ≠ some mb := by
    obtain ⟨inner, h1, _⟩ := hou
    exact own_ne_block h1 h.blk (by decide)
  have hmbf : mb ≠ fb := by
    rintro rfl
    exact own_ne_block h.foll.own h.blk (by decide) rfl
  have hsz : (w1.setCell ⟨fb, n, none⟩ u1).heap.size = w1.heap.size := by simp [World.setCell]
  have hto : ∃ ti, w.ownsRow 0 86 1 tv ts.length ti := by obtain ⟨inner, h1, _⟩ := h.types; exact ⟨inner, h1⟩
  obtain ⟨ti, hto⟩ := hto
  have hmod : ∀ i, i ≠ n → (fs.modify n (· ++ first))[i]? = fs[i]? := fun i hi => by rw [List.getElem?_modify]; simp [Ne.symm hi]
  have hmodn : (fs.modify n (· ++ first))[n]? = some (x ++ first) := by rw [List.getElem?_modify]; simp [hx]
  have hvn : n < vs.length := (List.getElem?_eq_some_iff.1 hu).1
  have hset : ∀ i, i ≠ n → (vs.set n u1)[i]? = vs[i]? := fun i hi => by rw [List.getElem?_set]; simp [Ne.symm hi]
  have hsetn : (vs.set n u1)[n]? = some u1 := by rw [List.getElem?_set]; simp [hvn]
  have hu1fb : ∀ k, u1.ownBlock = some k → k ≠ fb := by
    intro k hk
    rcases hat with hat | ⟨b, hb, hle⟩
    · exact hufb k (hat ▸ hk)
    · rw [hb] at hk
      injection hk with hk
      have := (h.low fb hfb).2
      omega
  have hu1M : ∀ k, u1.ownBlock = some k → M k ∨ (w.heap.size ≤ k ∧ k < w1.heap.size) := by
    intro k hk
    rcases hat with hat | ⟨b, hb, hle⟩
    · exact .inl (huM k (hat ▸ hk))
    · have := (Rp.own_block_lt ho k hk).2
      rw [hb] at hk
      injection hk with hk
      exact .inr ⟨by omega, this⟩
  refine ⟨⟨?_, .inl h.mbM, ?_, ?_, fun k hk => .inl (h.typesM k hk), ⟨?_, fun k hk => .inl (h.foll.inM k hk), ?_, ?_⟩, h.apart⟩, hU2.mono (fun k _ hk => hSM k hk)⟩
  · rw [hU2.block mb (h.low mb h.mbM).2 (by rintro (hk | hk); exact hmbu hk; exact hmbf hk), List.length_modify]
    exact h.blk
  · rintro k (hk | hk)
    · exact ⟨(h.low k hk).1, by rw [hsz]; exact Nat.lt_of_lt_of_le (h.low k hk).2 hU.size⟩
    · exact ⟨by omega, by rw [hsz]; exact hk.2⟩
  · refine Rp.own_upd h.types hU2 (fun k hl hk hS => ?_)
    rcases hk with hk | hk
    · have := (h.low k (hSM k hS)).1
      omega
    · rcases hS with hS | rfl
      · obtain ⟨inner, h1, _⟩ := hou
        exact own_ne hto h1 (by decide) k hk hS
      · exact h.apart k hk rfl
  · rw [List.length_modify]
    obtain ⟨inner, h1, _⟩ := hou
    exact ownsRow_set (ownsRow_upd h.foll.own hU (fun k hk hS => own_ne h.foll.own h1 (by decide) k hk hS)) hn u1
  · intro i v y hv hy
    by_cases hi : i = n
    · subst hi
      rw [hsetn] at hv
      rw [hmodn] at hy
      cases hv
      cases hy
      exact ⟨int_own_fp (Rp.own_upd (int_own_fp ho) (Upd.setCell1 (S := fun k => k = fb) w1 (p := ⟨fb, i, none⟩) rfl u1) (fun k _ hk he => hu1fb k hk he)), hu1M⟩
    · rw [hset i hi] at hv
      rw [hmod i hi] at hy
      obtain ⟨ho2, hM2⟩ := h.foll.each i v y hv hy
      refine ⟨Rp.own_upd ho2 hU2 (fun k _ hk hS => ?_), fun k hk => .inl (hM2 k hk)⟩
      rcases hS with hS | rfl
      · exact h.foll.two i n v u k hv hu hi hk hS
      · obtain ⟨inner, h1, _⟩ := ho2
        exact own_ne h1 h.foll.own (by decide) k hk rfl
  · intro i j v v' k hv hv' hij hk
    by_cases hi : i = n
    · subst hi
      rw [hsetn] at hv
      cases hv
      rw [hset j (Ne.symm hij)] at hv'
      rcases hat with hat | ⟨b, hb, hle⟩
      · exact h.foll.two i j u v' k hu hv' hij (hat ▸ hk)
      · rw [hb] at hk
        injection hk with hk
        subst hk
        intro hk'
        have hj : j < fs.length := by rw [← (show vs.length = fs.length by simpa using h.foll.own.1)]; exact (List.getElem?_eq_some_iff.1 hv').1
        have := (h.low b ((h.foll.each j v' _ hv' (List.getElem?_eq_getElem hj)).2 b hk')).2
        omega
    · rw [hset i hi] at hv
      by_cases hj : j = n
      · subst hj
        rw [hsetn] at hv'
        cases hv'
        rcases hat with hat | ⟨b, hb, hle⟩
        · rw [hat]
          exact h.foll.two i j v u k hv hu hij hk
        · rw [hb]
          intro hk'
          injection hk' with hk'
          subst hk'
          have hi2 : i < fs.length := by rw [← (show vs.length = fs.length by simpa using h.foll.own.1)]; exact (List.getElem?_eq_some_iff.1 hv).1
          have := (h.low b ((h.foll.each i v _ hv (List.getElem?_eq_getElem hi2)).2 b hk)).2
          omega
      · rw [hset j hj] at hv'
        exact h.foll.two i j v v' k hv hv' hij hk

/-- What join does to the rows. -/
def joinF (fs : List (List Int)) (last first : List Int) : List (List Int) := last.foldl (fun fs a => fs.modify a.toNat (· ++ first)) fs
theorem joinF_len (fs : List (List Int)) (last first : List Int) : (joinF fs last first).length = fs.length := by
  unfold joinF
  induction last generalizing fs with
  | nil => rfl
  | cons a r ih => simp [ih]
theorem joinF_succ {fs : List (List Int)} {last first : List Int} {k : Nat} {a : Int} (ha : last[k]? = some a) : joinF fs (last.take (k + 1)) first = (joinF fs (last.take k) first).modify a.toNat (· ++ first) := by
  unfold joinF
  rw [List.take_add_one, ha, List.foldl_append]
  rfl
theorem joinF_bound {fs : List (List Int)} {last first : List Int} {b : Nat} (hb : ∀ x ∈ fs, x.length ≤ b) : ∀ x ∈ joinF fs last first, x.length ≤ b + last.length * first.length := by
  unfold joinF
  induction last generalizing fs b with
  | nil => intro x hx; have := hb x hx; simp; omega
  | cons a r ih =>
    intro x hx
    have := ih (fs := fs.modify a.toNat (· ++ first)) (b := b + first.length) (fun y hy => by
      obtain ⟨i, hi⟩ := List.getElem?_of_mem hy
      rw [List.getElem?_modify] at hi
      cases hfi : fs[i]? with
      | none => simp [hfi] at hi
      | some z =>
        have hz := hb z (List.mem_of_getElem? hfi)
        rw [hfi] at hi
        by_cases he : a.toNat = i
        · simp [he] at hi
          rw [← hi, List.length_append]
          omega
        · simp [he] at hi
          rw [← hi]
          omega) x hx
    rw [List.length_cons, Nat.add_mul]
    omega

abbrev Grow (M M' : Nat → Prop) (lo hi : Nat) : Prop := (∀ k, M k → M' k) ∧ ∀ k, M' k → M k ∨ (lo ≤ k ∧ k < hi)

def JoinRel (w wr : World) (B : Nat) (M : Nat → Prop) (mb : Nat) (ts fs : List (List Int)) (b0 b1 b2 tv : Value) : Prop :=
  ∃ M' fv vs, Mach wr B M' mb ts fs b0 b1 b2 tv fv vs ∧ Grow M M' w.heap.size wr.heap.size ∧ Upd M w wr

set_option maxRecDepth 100000 in
set_option maxHeartbeats 4000000 in
theorem join_calls {w : World} {B : Nat} {M F G : Nat → Prop} {mb : Nat} {ts fs : List (List Int)} {b0 b1 b2 tv fv : Value} {vs : List Value} {Al Af : Option Addr} {cl cf : Nat} {last first : List Int}
    (h : Mach w B M mb ts fs b0 b1 b2 tv fv vs) (hl : intR.row w F Al last) (hf : intR.row w G Af first) (hF : ∀ k, F k → k < w.heap.size → ¬ M k) (hG : ∀ k, G k → k < w.heap.size → ¬ M k) (hr : ∀ a ∈ last, 0 ≤ a ∧ a < fs.length)
    (hfl : fs.length ≤ 1048576) (hbl : last.length ≤ 1000) (hbf : first.length ≤ 1000) (hbs : ∀ x ∈ fs, x.length ≤ 1000000000) :
    Calls Tryz.prog 203 #[.pointer (some ⟨mb, 0, none⟩), .slice Al last.length cl, .slice Af first.length cf] w fun r w' => r = .returned (.tuple #[]) ∧ JoinRel w w' B M mb ts (joinF fs last first) b0 b1 b2 tv := by
  have HM := As.mk h
  have HL := As.mk hl
  have HF := As.mk hf
  have HFM := As.mk hF
  have HGM := As.mk hG
  have HB := As.mk hbs
  have HA := As.mk hr
  clear h hl hf hF hG hbs hr
  go_enter Tryz.func203, Tryz.ntmps203
  go_wp2
  go_loopg [10] last.length (fun g i wr => ∃ k : Nat, k + g = last.length ∧ i = .int .i64 k ∧ As (JoinRel w wr B M mb ts (joinF fs (last.take k) first) b0 b1 b2 tv))
  case atStart => exact ⟨0, by omega, rfl, ⟨M, fv, vs, HM.out, ⟨fun _ h => h, fun _ h => .inl h⟩, Upd.refl _ _⟩⟩
  case round =>
    obtain ⟨k, hk, rfl, HC⟩ := hrel
    by_cases hlt : k < last.length
    · obtain ⟨x, hx⟩ : ∃ x, last[k]? = some x := ⟨_, List.getElem?_eq_getElem hlt⟩
      obtain ⟨M1, fv1, vs1, hm1, hg1, hu1⟩ := HC.out
      have HLr := As.mk (Rp.row_upd HL.out hu1 (fun k hk hF => HFM.out k hF hk))
      have HFr := As.mk (Rp.row_upd HF.out hu1 (fun k hk hF => HGM.out k hF hk))
      obtain ⟨b, o, rfl, hFb, hbb, d0⟩ := int_at HLr.out hx
      obtain ⟨hx0, hx1⟩ := HA.out x (List.mem_of_getElem? hx)
      obtain ⟨n, rfl⟩ : ∃ n : Nat, x = n := ⟨x.toNat, by omega⟩
      have hlen := joinF_len fs (last.take k) first
      obtain ⟨y, hy⟩ : ∃ y, (joinF fs (last.take k) first)[n]? = some y := ⟨_, List.getElem?_eq_getElem (by omega)⟩
      have hyl := joinF_bound (last := last.take k) (first := first) HB.out y (List.mem_of_getElem? hy)
      rw [List.length_take] at hyl
      have hyl2 : y.length ≤ 1001000000 := by
        have : min k last.length * first.length ≤ 1000 * 1000 := Nat.mul_le_mul (by omega) hbf
        omega
      obtain ⟨g1, rfl⟩ : ∃ m, gk = m + 1 := ⟨gk - 1, by omega⟩
      have hvl : vs1.length = (joinF fs (last.take k) first).length := by simpa using hm1.foll.own.1
      obtain ⟨u, hu⟩ : ∃ u, vs1[n]? = some u := ⟨_, List.getElem?_eq_getElem (by omega)⟩
      have hnf : n < (joinF fs (last.take k) first).length := by omega
      have hnfi : (n : Int) < ((joinF fs (last.take k) first).length : Int) := by omega
      obtain ⟨fb, cap, rfl, _, hfbl⟩ := hm1.foll.own.form (by omega)
      have hmd : As (Mach wr.drew B M1 mb ts (joinF fs (last.take k) first) b0 b1 b2 tv (.slice (some ⟨fb, 0, none⟩) (joinF fs (last.take k) first).length cap) vs1) := ⟨hm1.pure ((Upd.refl _ _).drew)⟩
      obtain ⟨hou, huM⟩ := hmd.out.foll.each n u y hu hy
      have hcur : ∃ cur, wr.heap[fb]? = some (.cells cur 86 (0, 0)) ∧ cur[n]? = some u := by
        rcases hm1.foll.own.2 with ⟨h, _⟩ | ⟨g, cap', cur, hv, _, hg, hle, _, hcs, htake⟩
        · cases h
        · simp at hv
          obtain ⟨rfl, rfl⟩ := hv
          refine ⟨cur, hg, ?_⟩
          rw [← htake, List.getElem?_take] at hu
          split at hu
          · simpa using hu
          · cases hu
      obtain ⟨cur, hcb, hcn⟩ := hcur
      have q1 : wr.cell? ⟨mb, 1, none⟩ = some (.slice (some ⟨fb, 0, none⟩) (joinF fs (last.take k) first).length cap) := by unfold World.cell?; simp only [hm1.blk]; rfl
      have q2 : wr.cell? ⟨fb, n, none⟩ = some u := by unfold World.cell?; simp only [hcb]; exact hcn
      have q3 : wr.frozen? ⟨fb, n, none⟩ = false := by simp [World.frozen?, hcb]
      have hmbl := (hm1.low mb hm1.mbM).2
      have HSK : As (∀ w1, Upd (fun k => u.ownBlock = some k) wr.drew w1 → w1.cell? ⟨mb, 1, none⟩ = some (.slice (some ⟨fb, 0, none⟩) (joinF fs (last.take k) first).length cap) ∧ w1.cell? ⟨fb, n, none⟩ = some u ∧ w1.frozen? ⟨fb, n, none⟩ = false) := ⟨by
        intro w1 hU
        obtain ⟨inner, h1, _⟩ := hou
        have n1 : ¬ u.ownBlock = some mb := own_ne_block h1 hmd.out.blk (by decide)
        have n2 : ¬ u.ownBlock = some fb := fun hk => own_ne h1 hmd.out.foll.own (by decide) fb hk rfl
        exact ⟨(hU.cell hmbl n1).trans q1, (hU.cell hfbl n2).trans q2, (hU.frozen hfbl n2).trans q3⟩⟩
      have HSS : As (∀ w1, Upd (fun k => u.ownBlock = some k) wr.drew w1 → ∀ v, (w1.setCell ⟨fb, n, none⟩ v).cell? ⟨mb, 1, none⟩ = some (.slice (some ⟨fb, 0, none⟩) (joinF fs (last.take k) first).length cap) ∧ (w1.setCell ⟨fb, n, none⟩ v).frozen? ⟨fb, n, none⟩ = false) := ⟨by
        intro w1 hU v
        obtain ⟨s1, s2, s3⟩ := HSK.out w1 hU
        have hne : mb ≠ fb := by
          rintro rfl
          exact own_ne_block hmd.out.foll.own hmd.out.blk (by decide) rfl
        refine ⟨?_, ?_⟩
        · rw [← s1]
          exact World.cell?_of_block (Below.heap_setCell _ _ _ _ hne)
        · rw [World.frozen?_setCell]
          exact s3⟩
      have HOU := As.mk hou
      have HY := As.mk hy
      have HUU := As.mk hu
      have HG1 := As.mk hg1
      have HU1' := As.mk hu1
      have HT := As.mk (joinF_succ (fs := fs) (first := first) hx)
      have HK := As.mk hk
      have HFd := As.mk (Rp.row_pure HFr.out ((Upd.refl (fun _ => False) wr).drew))
      have HQ := As.mk (And.intro q1 (And.intro q2 q3))
      generalize hfs : joinF fs (last.take k) first = fk at *
      clear hk hx hy hu hg1 hu1 hou hcb hcn hm1 HC HLr HFr q1 q2 q3 hvl hlen hyl hfs huM
      go_wp2
      have q2 := HQ.out.2.1
      have q2d : wr.drew.cell? ⟨fb, n, none⟩ = some u := q2
      refine wp_region_T (P := Tryz.prog) (fun w' => w'.cell? ⟨mb, 1, none⟩ = some (.slice (some ⟨fb, 0, none⟩) fk.length cap) ∧ w'.cell? ⟨fb, n, none⟩ = some u ∧ w'.frozen? ⟨fb, n, none⟩ = false) 15 (by kernel_rfl) ?_ (fun hHeld => ?_)
      · first | exact HQ.out | exact HSK.out _ HU2.out
      refine takeT 0 (by exact opAt rfl) (by kernel_rfl) (by exact fun _ _ _ h => h) (by rfl) (by intro w hSw; (try dsimp only at hSw); go_simp; try with_reducible rfl) (by assumption) ?_
      (try simp only [Act.put, List.setIfInBounds_toArray, List.set_cons_zero, List.set_cons_succ])
      refine takeT 1 (by exact opAt rfl) (by kernel_rfl) (by exact fun _ _ _ h => h) (by rfl) (by intro w hSw; (try dsimp only at hSw); go_simp; try with_reducible rfl) (by assumption) ?_
      (try simp only [Act.put, List.setIfInBounds_toArray, List.set_cons_zero, List.set_cons_succ])
      refine takeT 2 (by exact opAt rfl) (by kernel_rfl) (by exact fun _ _ _ h => h) (by rfl) (by intro w hSw; (try dsimp only at hSw); go_simp; try with_reducible rfl) (by assumption) ?_
      (try simp only [Act.put, List.setIfInBounds_toArray, List.set_cons_zero, List.set_cons_succ])
      refine takeT 3 (by exact opAt rfl) (by kernel_rfl) (by exact fun _ _ _ h => h) (by rfl) (by intro w hSw; (try dsimp only at hSw); go_simp; try with_reducible rfl) (by assumption) ?_
      (try simp only [Act.put, List.setIfInBounds_toArray, List.set_cons_zero, List.set_cons_succ])
      refine takeT 4 (by exact opAt rfl) (by kernel_rfl) (by exact fun _ _ _ h => h) (by rfl) (by intro w hSw; (try dsimp only at hSw); go_simp; try with_reducible rfl) (by assumption) ?_
      (try simp only [Act.put, List.setIfInBounds_toArray, List.set_cons_zero, List.set_cons_succ])
      refine takeT 5 (by exact opAt rfl) (by kernel_rfl) (by exact fun _ _ _ h => h) (by rfl) (by intro w hSw; (try dsimp only at hSw); go_simp; try with_reducible rfl) (by assumption) ?_
      (try simp only [Act.put, List.setIfInBounds_toArray, List.set_cons_zero, List.set_cons_succ])
      refine takeT 6 (by exact opAt rfl) (by kernel_rfl) (by exact fun _ _ _ h => h) (by rfl) (by intro w hSw; (try dsimp only at hSw); go_simp; try with_reducible rfl) (by assumption) ?_
      (try simp only [Act.put, List.setIfInBounds_toArray, List.set_cons_zero, List.set_cons_succ])
      refine takeT 7 (by exact opAt rfl) (by kernel_rfl) (by exact fun _ _ _ h => h) (by rfl) (by intro w hSw; (try dsimp only at hSw); go_simp; try with_reducible rfl) (by assumption) ?_
      (try simp only [Act.put, List.setIfInBounds_toArray, List.set_cons_zero, List.set_cons_succ])
      refine takeT 8 (by exact opAt rfl) (by kernel_rfl) (by exact fun _ _ _ h => h) (by rfl) (by intro w hSw; (try dsimp only at hSw); go_simp; try with_reducible rfl) (by assumption) ?_
      (try simp only [Act.put, List.setIfInBounds_toArray, List.set_cons_zero, List.set_cons_succ])
      refine takeT 9 (by exact opAt rfl) (by kernel_rfl) (by exact fun _ _ _ h => h) (by rfl) (by intro w hSw; (try dsimp only at hSw); go_simp; try with_reducible rfl) (by assumption) ?_
      (try simp only [Act.put, List.setIfInBounds_toArray, List.set_cons_zero, List.set_cons_succ])
      refine takeT 10 (by exact opAt rfl) (by kernel_rfl) (by exact fun _ _ _ h => h) (by rfl) (by intro w hSw; (try dsimp only at hSw); go_simp; try with_reducible rfl) (by assumption) ?_
      (try simp only [Act.put, List.setIfInBounds_toArray, List.set_cons_zero, List.set_cons_succ])
      refine takeT 11 (by exact opAt rfl) (by kernel_rfl) (by exact fun _ _ _ h => h) (by rfl) (by intro w hSw; (try dsimp only at hSw); go_simp; try with_reducible rfl) (by assumption) ?_
      (try simp only [Act.put, List.setIfInBounds_toArray, List.set_cons_zero, List.set_cons_succ])
      refine takeT 12 (by exact opAt rfl) (by kernel_rfl) (by exact fun _ _ _ h => h) (by rfl) (by intro w hSw; (try dsimp only at hSw); go_simp; try with_reducible rfl) (by assumption) ?_
      (try simp only [Act.put, List.setIfInBounds_toArray, List.set_cons_zero, List.set_cons_succ])
      refine wpAnyT_one (i := 13) (by kernel_rfl) (by exact opAt rfl) (fun K hK => ?_)
      refine Rp.step_append_row intR (c := cf) HOU.out (Rp.row'_of HFd.out (fun _ _ h => h)) (Fz := fun _ => False) (fun _ h => h.elim) (by rfl) _ _ 86 (.int .i64 0) 8 (by rfl) Tryz.underlying86 int_info rfl (by decide) (by decide) (by rfl) (by rfl) (by omega) ?_; intro v1 w2 ho1 hu2 hat; obtain ⟨A1, c1, rfl, _, _⟩ := Rp.own_slice ho1; have HO1 := As.mk ho1; have HU2 := As.mk hu2; have HAT := As.mk hat; have HST := As.mk (fun v => HSS.out w2 hu2 v); obtain ⟨s1, s2, s3⟩ := HSK.out w2 hu2; clear ho1 hu2 hat
      refine hK.out _ _ (fun _ => by first | exact HQ.out | exact HSK.out _ HU2.out) (fun hHeld => ?_)
      replace hHeld := hHeld (by decide)
      clear hK K
      (try simp only [Act.put, List.setIfInBounds_toArray, List.set_cons_zero, List.set_cons_succ])
      refine takeT 14 (by exact opAt rfl) (by kernel_rfl) (by exact fun _ _ _ h => h) (by rfl) (by intro w hSw; (try dsimp only at hSw); go_simp; try with_reducible rfl) (by assumption) ?_
      (try simp only [Act.put, List.setIfInBounds_toArray, List.set_cons_zero, List.set_cons_succ])
      refine wpAnyT_one (i := 15) (by kernel_rfl) (by exact opAt rfl) (fun K hK => ?_)
      go_simp
      refine hK.out _ _ (fun h => absurd rfl h) (fun hHeld => ?_)
      clear hK K
      (try simp only [Act.put, List.setIfInBounds_toArray, List.set_cons_zero, List.set_cons_succ])
      refine wpAnyT_done (by kernel_rfl) ?_ _
      obtain ⟨hmn, hun⟩ := Mach.join1 hmd.out HY.out HUU.out HO1.out HU2.out HAT.out
      have hsz2 : (w2.setCell ⟨fb, n, none⟩ (.slice A1 (y.length + first.length) c1)).heap.size = w2.heap.size := by simp [World.setCell]
      have HN : As (JoinRel w (w2.setCell ⟨fb, n, none⟩ (.slice A1 (y.length + first.length) c1)) B M mb ts (joinF fs (last.take (k + 1)) first) b0 b1 b2 tv) := ⟨by
        have hle1 : wr.heap.size ≤ w2.heap.size := HU2.out.size
        have hle0 := HU1'.out.size
        rw [HT.out]
        have e1 : ((n : Int)).toNat = n := by simp
        rw [e1]
        rw [List.length_append] at hmn hun
        refine ⟨_, _, _, hmn, ⟨fun q hq => .inl (HG1.out.1 q hq), fun q hq => ?_⟩, Upd.trans HU1'.out (Upd.trans ((Upd.refl M1 wr).drew) hun (fun k _ h => h)) (fun q hq h => ?_)⟩
        · rcases hq with hq | hq
          · rcases HG1.out.2 q hq with hq | hq
            · exact .inl hq
            · exact .inr ⟨hq.1, by rw [hsz2]; omega⟩
          · exact .inr ⟨by have h1 : wr.heap.size ≤ q := hq.1; omega, by rw [hsz2]; exact hq.2⟩
        · rcases HG1.out.2 q h with h | h
          · exact h
          · omega⟩
      go_wp2
      go_roundg g1
      case measure => omega
      case rel => exact ⟨k + 1, by have := HK.out; omega, by go_num, HN⟩
    · have hkl : k = last.length := by omega
      subst hkl
      rw [List.take_length] at HC
      go_wp2
      go_end0
      exact ⟨rfl, HC.out⟩
end Go.Proofs.YtfapglhdakhbeaaGreatDoor
namespace Go.Proofs.YtfapglhdakhbeaaGreatDoor
open Go.RowKit
set_option linter.unusedVariables false
set_option linter.unusedSimpArgs false

theorem Foll.upd2 {w w1 : World} {S M M' : Nat → Prop} {v : Value} {fs : List (List Int)} {vs : List Value} (h : Foll w M v fs vs) (hu : Upd S w w1) (h1 : ∀ k, v.ownBlock = some k → ¬ S k) (h2 : ∀ u ∈ vs, ∀ k, u.ownBlock = some k → ¬ S k) (hM : ∀ k, M k → M' k) : Foll w1 M' v fs vs where
  own := ownsRow_upd h.own hu h1
  inM := fun k hk => hM k (h.inM k hk)
  each := fun i u x hu' hx => ⟨Rp.own_upd (h.each i u x hu' hx).1 hu (fun k _ hk => h2 u (List.mem_of_getElem? hu') k hk), fun k hk => hM k ((h.each i u x hu' hx).2 k hk)⟩
  two := h.two

theorem Foll.int {w : World} {M : Nat → Prop} {v : Value} {fs : List (List Int)} {vs : List Value} (h : Foll w M v fs vs) {u : Value} (hu : u ∈ vs) : ∃ n inner, w.ownsRow 0 3 1 u n inner ∧ ∀ k, u.ownBlock = some k → M k := by
  obtain ⟨i, hi⟩ := List.getElem?_of_mem hu
  have hl : vs.length = fs.length := by simpa using h.own.1
  have hlt : i < fs.length := by rw [← hl]; exact (List.getElem?_eq_some_iff.1 hi).1
  obtain ⟨⟨inner, h1, _⟩, h2⟩ := h.each i u _ hi (List.getElem?_eq_getElem hlt)
  exact ⟨_, inner, h1, h2⟩

theorem Mach.types1 {w w2 : World} {B : Nat} {M : Nat → Prop} {mb : Nat} {ts fs : List (List Int)} {b0 b1 b2 tv fv v1 : Value} {vs : List Value} (h : Mach w B M mb ts fs b0 b1 b2 tv fv vs) {x : List Int}
    (ho : intR.slice.own 86 w2 (fun k => ((k < B ∨ tv.ownBlock = some k) ∧ some k ≠ tv.ownBlock) ∨ k < B ∨ v1.ownBlock = some k) v1 (ts ++ [x])) (hU : Upd (fun k => tv.ownBlock = some k) w w2)
    (hat : v1.ownBlock = tv.ownBlock ∨ ∃ b, v1.ownBlock = some b ∧ w.heap.size ≤ b) :
    Mach (w2.setCell ⟨mb, 0, none⟩ v1) B (fun k => M k ∨ (w.heap.size ≤ k ∧ k < w2.heap.size)) mb (ts ++ [x]) fs b0 b1 b2 v1 fv vs ∧ Upd M w (w2.setCell ⟨mb, 0, none⟩ v1) := by
  have hB : B ≤ w.heap.size := by have := h.low mb h.mbM; omega
  have hsz : (w2.setCell ⟨mb, 0, none⟩ v1).heap.size = w2.heap.size := by simp [World.setCell]
  obtain ⟨ti, hto, _⟩ := h.types
  have hmt : tv.ownBlock ≠ some mb := own_ne_block hto h.blk (by decide)
  have hblk2 : w2.heap[mb]? = some (.cells #[tv, fv, b0, b1, b2] 232 (0, 0)) := by rw [hU.block mb (h.low mb h.mbM).2 hmt]; exact h.blk
  have hU2 : Upd (fun k => tv.ownBlock = some k ∨ k = mb) w (w2.setCell ⟨mb, 0, none⟩ v1) := (hU.mono (fun k _ hk => .inl hk)).setCell (p := ⟨mb, 0, none⟩) (fun _ => .inr rfl) v1
  have hm1 : v1.ownBlock ≠ some mb := by obtain ⟨i2, ho2, _⟩ := ho; exact own_ne_block ho2 hblk2 (by decide)
  have hlt1 := Rp.own_block_lt ho
  refine ⟨⟨by simp [World.setCell, Array.getElem?_modify, hblk2], .inl h.mbM, ?_, ?_, ?_, ?_, ?_⟩, hU2.mono (fun k _ hk => ?_)⟩
  · rintro k (hk | hk)
    · exact ⟨(h.low k hk).1, by rw [hsz]; exact Nat.lt_of_lt_of_le (h.low k hk).2 hU.size⟩
    · exact ⟨by omega, by rw [hsz]; exact hk.2⟩
  · refine Rp.own_fp (Rp.own_upd ho (Upd.setCell1 (S := fun k => k = mb) w2 (p := ⟨mb, 0, none⟩) rfl v1) (fun k _ hk he => ?_)) (fun k hk => ?_)
    · subst he
      have := (h.low k h.mbM).1
      rcases hk with ⟨hk | hk, h3⟩ | hk | hk
      · omega
      · exact h3 hk.symm
      · omega
      · exact hm1 hk
    · rcases hk with ⟨hk | hk, h3⟩ | hk | hk
      · exact .inl hk
      · exact absurd hk.symm h3
      · exact .inl hk
      · exact .inr hk
  · intro k hk
    have h4 := (hlt1 k hk).2
    rcases hat with hat | ⟨b, hb, hle⟩
    · exact .inl (h.typesM k (hat ▸ hk))
    · rw [hb] at hk
      injection hk with hk
      exact .inr ⟨by omega, h4⟩
  · refine h.foll.upd2 hU2 ?_ ?_ (fun k hk => .inl hk)
    · rintro k hk (hS | rfl)
      · exact h.apart k hS hk
      · exact own_ne_block h.foll.own h.blk (by decide) hk
    · rintro u hu k hk (hS | rfl)
      · obtain ⟨n, inner, h5, _⟩ := h.foll.int hu
        exact own_ne h5 hto (by decide) k hk hS
      · obtain ⟨n, inner, h5, _⟩ := h.foll.int hu
        exact own_ne_block h5 h.blk (by decide) hk
  · intro k hk hk'
    rcases hat with hat | ⟨b, hb, hle⟩
    · exact h.apart k (hat ▸ hk) hk'
    · rw [hb] at hk
      injection hk with hk
      have := (h.low k (h.foll.inM k hk')).2
      omega
  · rcases hk with hk | rfl
    · exact h.typesM k hk
    · exact h.mbM

theorem Mach.foll1 {w w2 : World} {B : Nat} {M : Nat → Prop} {mb : Nat} {ts fs : List (List Int)} {b0 b1 b2 tv fv v1 : Value} {vs : List Value} (h : Mach w B M mb ts fs b0 b1 b2 tv fv vs)
    (ho : w2.ownsRow 0 86 1 v1 (fs.length + 1) (vs ++ [.slice none 0 0])) (hU : Upd (fun k => fv.ownBlock = some k) w w2)
    (hat : v1.ownBlock = fv.ownBlock ∨ ∃ b, v1.ownBlock = some b ∧ w.heap.size ≤ b) :
    Mach (w2.setCell ⟨mb, 1, none⟩ v1) B (fun k => M k ∨ (w.heap.size ≤ k ∧ k < w2.heap.size)) mb ts (fs ++ [[]]) b0 b1 b2 tv v1 (vs ++ [.slice none 0 0]) ∧ Upd M w (w2.setCell ⟨mb, 1, none⟩ v1) := by
  have hB : B ≤ w.heap.size := by have := h.low mb h.mbM; omega
  have hsz : (w2.setCell ⟨mb, 1, none⟩ v1).heap.size = w2.heap.size := by simp [World.setCell]
  obtain ⟨ti, hto, _⟩ := h.types
  have hl : vs.length = fs.length := by simpa using h.foll.own.1
  have hmt : fv.ownBlock ≠ some mb := own_ne_block h.foll.own h.blk (by decide)
  have hblk2 : w2.heap[mb]? = some (.cells #[tv, fv, b0, b1, b2] 232 (0, 0)) := by rw [hU.block mb (h.low mb h.mbM).2 hmt]; exact h.blk
  have hU2 : Upd (fun k => fv.ownBlock = some k ∨ k = mb) w (w2.setCell ⟨mb, 1, none⟩ v1) := (hU.mono (fun k _ hk => .inl hk)).setCell (p := ⟨mb, 1, none⟩) (fun _ => .inr rfl) v1
  have hm1 : v1.ownBlock ≠ some mb := own_ne_block ho hblk2 (by decide)
  have hlt1 : ∀ k, v1.ownBlock = some k → k < w2.heap.size := fun k hk => (ho.lt k hk).2
  have hv1M : ∀ k, v1.ownBlock = some k → M k ∨ (w.heap.size ≤ k ∧ k < w2.heap.size) := by
    intro k hk
    have h4 := hlt1 k hk
    rcases hat with hat | ⟨b, hb, hle⟩
    · exact .inl (h.foll.inM k (hat ▸ hk))
    · rw [hb] at hk
      injection hk with hk
      exact .inr ⟨by omega, h4⟩
  refine ⟨⟨by simp [World.setCell, Array.getElem?_modify, hblk2], .inl h.mbM, ?_, ?_, fun k hk => .inl (h.typesM k hk), ⟨?_, hv1M, ?_, ?_⟩, ?_⟩, hU2.mono (fun k _ hk => ?_)⟩
  · rintro k (hk | hk)
    · exact ⟨(h.low k hk).1, by rw [hsz]; exact Nat.lt_of_lt_of_le (h.low k hk).2 hU.size⟩
    · exact ⟨by omega, by rw [hsz]; exact hk.2⟩
  · refine Rp.own_upd h.types hU2 (fun k hl2 hk hS => ?_)
    rcases hk with hk | hk
    · rcases hS with hS | rfl
      · have := (h.low k (h.foll.inM k hS)).1; omega
      · have := (h.low k h.mbM).1; omega
    · rcases hS with hS | rfl
      · exact h.apart k hk hS
      · exact own_ne_block hto h.blk (by decide) hk
  · rw [List.length_append]
    exact ownsRow_upd ho (Upd.setCell1 (S := fun k => k = mb) w2 (p := ⟨mb, 1, none⟩) rfl v1) (fun k hk he => hm1 (he ▸ hk))
  · intro i u x hu hx
    rcases Nat.lt_or_ge i vs.length with hi | hi
    · rw [List.getElem?_append_left hi] at hu
      rw [List.getElem?_append_left (by omega)] at hx
      obtain ⟨h5, h6⟩ := h.foll.each i u x hu hx
      refine ⟨Rp.own_upd h5 hU2 (fun k _ hk hS => ?_), fun k hk => .inl (h6 k hk)⟩
      obtain ⟨inner, h7, _⟩ := h5
      rcases hS with hS | rfl
      · exact own_ne h7 h.foll.own (by decide) k hk hS
      · exact own_ne_block h7 h.blk (by decide) hk
    · rw [List.getElem?_append_right hi] at hu
      rw [List.getElem?_append_right (by omega)] at hx
      match hk : i - vs.length, hu with
      | 0, hu =>
        rw [← hl, hk] at hx
        simp at hu hx
        subst hu hx
        exact ⟨Rp.own_nil _ _ _ _, fun k hk => by simp [Value.ownBlock] at hk⟩
      | j + 1, hu => simp at hu
  · intro i j u u' k hu hu' hij hk
    rcases Nat.lt_or_ge i vs.length with hi | hi
    · rw [List.getElem?_append_left hi] at hu
      rcases Nat.lt_or_ge j vs.length with hj | hj
      · rw [List.getElem?_append_left hj] at hu'
        exact h.foll.two i j u u' k hu hu' hij hk
      · rw [List.getElem?_append_right hj] at hu'
        have := List.mem_of_getElem? hu'
        simp at this
        subst this
        simp [Value.ownBlock]
    · rw [List.getElem?_append_right hi] at hu
      have := List.mem_of_getElem? hu
      simp at this
      subst this
      simp [Value.ownBlock] at hk
  · intro k hk hk'
    rcases hat with hat | ⟨b, hb, hle⟩
    · exact h.apart k hk (hat ▸ hk')
    · rw [hb] at hk'
      injection hk' with hk'
      have := (h.low k (h.typesM k hk)).2
      omega
  · rcases hk with hk | rfl
    · exact h.foll.inM k hk
    · exact h.mbM
end Go.Proofs.YtfapglhdakhbeaaGreatDoor
