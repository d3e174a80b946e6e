/- The machine grows: types and a row of followers more. -/
import Derived.Test.YtchgeaklaeoplaaMach
namespace Go.Proofs.Ytchgeaklaeoplaa
open Go.RowKit
set_option linter.unusedVariables false
set_option linter.unusedSimpArgs false

theorem Foll.upd2 {w w1 : World} {S M M' : Nat → Prop} {v : Value} {fs : List (List Int)} {vs : List Value} (h : Foll w M v fs vs) (hu : Upd S w w1) (h1 : ∀ k, v.ownBlock = some k → ¬ S k) (h2 : ∀ u ∈ vs, ∀ k, u.ownBlock = some k → ¬ S k) (hM : ∀ k, M k → M' k) : Foll w1 M' v fs vs where
  own := ownsRow_upd h.own hu h1
  inM := fun k hk => hM k (h.inM k hk)
  each := fun i u x hu' hx => ⟨Rp.own_upd (h.each i u x hu' hx).1 hu (fun k _ hk => h2 u (List.mem_of_getElem? hu') k hk), fun k hk => hM k ((h.each i u x hu' hx).2 k hk)⟩
  two := h.two

theorem Foll.int {w : World} {M : Nat → Prop} {v : Value} {fs : List (List Int)} {vs : List Value} (h : Foll w M v fs vs) {u : Value} (hu : u ∈ vs) : ∃ n inner, w.ownsRow 0 3 1 u n inner ∧ ∀ k, u.ownBlock = some k → M k := by
  obtain ⟨i, hi⟩ := List.getElem?_of_mem hu
  have hl : vs.length = fs.length := by simpa using h.own.1
  have hlt : i < fs.length := by rw [← hl]; exact (List.getElem?_eq_some_iff.1 hi).1
  obtain ⟨⟨inner, h1, _⟩, h2⟩ := h.each i u _ hi (List.getElem?_eq_getElem hlt)
  exact ⟨_, inner, h1, h2⟩

theorem Mach.types1 {w w2 : World} {B : Nat} {M : Nat → Prop} {mb : Nat} {ts fs : List (List Int)} {b0 b1 b2 tv fv v1 : Value} {vs : List Value} (h : Mach w B M mb ts fs b0 b1 b2 tv fv vs) {x : List Int}
    (ho : intR.slice.own 26 w2 (fun k => ((k < B ∨ tv.ownBlock = some k) ∧ some k ≠ tv.ownBlock) ∨ k < B ∨ v1.ownBlock = some k) v1 (ts ++ [x])) (hU : Upd (fun k => tv.ownBlock = some k) w w2)
    (hat : v1.ownBlock = tv.ownBlock ∨ ∃ b, v1.ownBlock = some b ∧ w.heap.size ≤ b) :
    Mach (w2.setCell ⟨mb, 0, none⟩ v1) B (fun k => M k ∨ (w.heap.size ≤ k ∧ k < w2.heap.size)) mb (ts ++ [x]) fs b0 b1 b2 v1 fv vs ∧ Upd M w (w2.setCell ⟨mb, 0, none⟩ v1) := by
  have hB : B ≤ w.heap.size := by have := h.low mb h.mbM; omega
  have hsz : (w2.setCell ⟨mb, 0, none⟩ v1).heap.size = w2.heap.size := by simp [World.setCell]
  obtain ⟨ti, hto, _⟩ := h.types
  have hmt : tv.ownBlock ≠ some mb := own_ne_block hto h.blk (by decide)
  have hblk2 : w2.heap[mb]? = some (.cells #[tv, fv, b0, b1, b2] 69 (0, 0)) := by rw [hU.block mb (h.low mb h.mbM).2 hmt]; exact h.blk
  have hU2 : Upd (fun k => tv.ownBlock = some k ∨ k = mb) w (w2.setCell ⟨mb, 0, none⟩ v1) := (hU.mono (fun k _ hk => .inl hk)).setCell (p := ⟨mb, 0, none⟩) (fun _ => .inr rfl) v1
  have hm1 : v1.ownBlock ≠ some mb := by obtain ⟨i2, ho2, _⟩ := ho; exact own_ne_block ho2 hblk2 (by decide)
  have hlt1 := Rp.own_block_lt ho
  refine ⟨⟨by simp [World.setCell, Array.getElem?_modify, hblk2], .inl h.mbM, ?_, ?_, ?_, ?_, ?_⟩, hU2.mono (fun k _ hk => ?_)⟩
  · rintro k (hk | hk)
    · exact ⟨(h.low k hk).1, by rw [hsz]; exact Nat.lt_of_lt_of_le (h.low k hk).2 hU.size⟩
    · exact ⟨by omega, by rw [hsz]; exact hk.2⟩
  · refine Rp.own_fp (Rp.own_upd ho (Upd.setCell1 (S := fun k => k = mb) w2 (p := ⟨mb, 0, none⟩) rfl v1) (fun k _ hk he => ?_)) (fun k hk => ?_)
    · subst he
      have := (h.low k h.mbM).1
      rcases hk with ⟨hk | hk, h3⟩ | hk | hk
      · omega
      · exact h3 hk.symm
      · omega
      · exact hm1 hk
    · rcases hk with ⟨hk | hk, h3⟩ | hk | hk
      · exact .inl hk
      · exact absurd hk.symm h3
      · exact .inl hk
      · exact .inr hk
  · intro k hk
    have h4 := (hlt1 k hk).2
    rcases hat with hat | ⟨b, hb, hle⟩
    · exact .inl (h.typesM k (hat ▸ hk))
    · rw [hb] at hk
      injection hk with hk
      exact .inr ⟨by omega, h4⟩
  · refine h.foll.upd2 hU2 ?_ ?_ (fun k hk => .inl hk)
    · rintro k hk (hS | rfl)
      · exact h.apart k hS hk
      · exact own_ne_block h.foll.own h.blk (by decide) hk
    · rintro u hu k hk (hS | rfl)
      · obtain ⟨n, inner, h5, _⟩ := h.foll.int hu
        exact own_ne h5 hto (by decide) k hk hS
      · obtain ⟨n, inner, h5, _⟩ := h.foll.int hu
        exact own_ne_block h5 h.blk (by decide) hk
  · intro k hk hk'
    rcases hat with hat | ⟨b, hb, hle⟩
    · exact h.apart k (hat ▸ hk) hk'
    · rw [hb] at hk
      injection hk with hk
      have := (h.low k (h.foll.inM k hk')).2
      omega
  · rcases hk with hk | rfl
    · exact h.typesM k hk
    · exact h.mbM

theorem Mach.foll1 {w w2 : World} {B : Nat} {M : Nat → Prop} {mb : Nat} {ts fs : List (List Int)} {b0 b1 b2 tv fv v1 : Value} {vs : List Value} (h : Mach w B M mb ts fs b0 b1 b2 tv fv vs)
    (ho : w2.ownsRow 0 26 1 v1 (fs.length + 1) (vs ++ [.slice none 0 0])) (hU : Upd (fun k => fv.ownBlock = some k) w w2)
    (hat : v1.ownBlock = fv.ownBlock ∨ ∃ b, v1.ownBlock = some b ∧ w.heap.size ≤ b) :
    Mach (w2.setCell ⟨mb, 1, none⟩ v1) B (fun k => M k ∨ (w.heap.size ≤ k ∧ k < w2.heap.size)) mb ts (fs ++ [[]]) b0 b1 b2 tv v1 (vs ++ [.slice none 0 0]) ∧ Upd M w (w2.setCell ⟨mb, 1, none⟩ v1) := by
  have hB : B ≤ w.heap.size := by have := h.low mb h.mbM; omega
  have hsz : (w2.setCell ⟨mb, 1, none⟩ v1).heap.size = w2.heap.size := by simp [World.setCell]
  obtain ⟨ti, hto, _⟩ := h.types
  have hl : vs.length = fs.length := by simpa using h.foll.own.1
  have hmt : fv.ownBlock ≠ some mb := own_ne_block h.foll.own h.blk (by decide)
  have hblk2 : w2.heap[mb]? = some (.cells #[tv, fv, b0, b1, b2] 69 (0, 0)) := by rw [hU.block mb (h.low mb h.mbM).2 hmt]; exact h.blk
  have hU2 : Upd (fun k => fv.ownBlock = some k ∨ k = mb) w (w2.setCell ⟨mb, 1, none⟩ v1) := (hU.mono (fun k _ hk => .inl hk)).setCell (p := ⟨mb, 1, none⟩) (fun _ => .inr rfl) v1
  have hm1 : v1.ownBlock ≠ some mb := own_ne_block ho hblk2 (by decide)
  have hlt1 : ∀ k, v1.ownBlock = some k → k < w2.heap.size := fun k hk => (ho.lt k hk).2
  have hv1M : ∀ k, v1.ownBlock = some k → M k ∨ (w.heap.size ≤ k ∧ k < w2.heap.size) := by
    intro k hk
    have h4 := hlt1 k hk
    rcases hat with hat | ⟨b, hb, hle⟩
    · exact .inl (h.foll.inM k (hat ▸ hk))
    · rw [hb] at hk
      injection hk with hk
      exact .inr ⟨by omega, h4⟩
  refine ⟨⟨by simp [World.setCell, Array.getElem?_modify, hblk2], .inl h.mbM, ?_, ?_, fun k hk => .inl (h.typesM k hk), ⟨?_, hv1M, ?_, ?_⟩, ?_⟩, hU2.mono (fun k _ hk => ?_)⟩
  · rintro k (hk | hk)
    · exact ⟨(h.low k hk).1, by rw [hsz]; exact Nat.lt_of_lt_of_le (h.low k hk).2 hU.size⟩
    · exact ⟨by omega, by rw [hsz]; exact hk.2⟩
  · refine Rp.own_upd h.types hU2 (fun k hl2 hk hS => ?_)
    rcases hk with hk | hk
    · rcases hS with hS | rfl
      · have := (h.low k (h.foll.inM k hS)).1; omega
      · have := (h.low k h.mbM).1; omega
    · rcases hS with hS | rfl
      · exact h.apart k hk hS
      · exact own_ne_block hto h.blk (by decide) hk
  · rw [List.length_append]
    exact ownsRow_upd ho (Upd.setCell1 (S := fun k => k = mb) w2 (p := ⟨mb, 1, none⟩) rfl v1) (fun k hk he => hm1 (he ▸ hk))
  · intro i u x hu hx
    rcases Nat.lt_or_ge i vs.length with hi | hi
    · rw [List.getElem?_append_left hi] at hu
      rw [List.getElem?_append_left (by omega)] at hx
      obtain ⟨h5, h6⟩ := h.foll.each i u x hu hx
      refine ⟨Rp.own_upd h5 hU2 (fun k _ hk hS => ?_), fun k hk => .inl (h6 k hk)⟩
      obtain ⟨inner, h7, _⟩ := h5
      rcases hS with hS | rfl
      · exact own_ne h7 h.foll.own (by decide) k hk hS
      · exact own_ne_block h7 h.blk (by decide) hk
    · rw [List.getElem?_append_right hi] at hu
      rw [List.getElem?_append_right (by omega)] at hx
      match hk : i - vs.length, hu with
      | 0, hu =>
        rw [← hl, hk] at hx
        simp at hu hx
        subst hu hx
        exact ⟨Rp.own_nil _ _ _ _, fun k hk => by simp [Value.ownBlock] at hk⟩
      | j + 1, hu => simp at hu
  · intro i j u u' k hu hu' hij hk
    rcases Nat.lt_or_ge i vs.length with hi | hi
    · rw [List.getElem?_append_left hi] at hu
      rcases Nat.lt_or_ge j vs.length with hj | hj
      · rw [List.getElem?_append_left hj] at hu'
        exact h.foll.two i j u u' k hu hu' hij hk
      · rw [List.getElem?_append_right hj] at hu'
        have := List.mem_of_getElem? hu'
        simp at this
        subst this
        simp [Value.ownBlock]
    · rw [List.getElem?_append_right hi] at hu
      have := List.mem_of_getElem? hu
      simp at this
      subst this
      simp [Value.ownBlock] at hk
  · intro k hk hk'
    rcases hat with hat | ⟨b, hb, hle⟩
    · exact h.apart k hk (hat ▸ hk')
    · rw [hb] at hk'
      injection hk' with hk'
      have := (h.low k (h.typesM k hk)).2
      omega
  · rcases hk with hk | rfl
    · exact h.foll.inM k hk
    · exact h.mbM
end Go.Proofs.Ytchgeaklaeoplaa
