/- append(own, row...): a row that is read, behind a row of the call's own. -/
import Derived.Test.YtfapglhdakhbeaaDoorBase
import Derived.Deep.AppendLies
namespace Go.Proofs.YtfapglhdakhbeaaDoor
open Go.RowKit
set_option linter.unusedVariables false
set_option linter.unusedSimpArgs false

theorem run_append_nothing {P : Program} {w : World} {t ty e : TypeId} {size n c : Nat} {v : Value} {xs : List Value} (hown : w.ownsRow 0 e size v n xs) (i : TypeInfo) (ht : P.underlying t = some (.slice e)) (hi : P.info? e = some i) :
    (Builtin.append_ #[t, t] ty #[v, .slice none 0 c]).run P w = .ok v w := by
  rcases hown.2 with ⟨rfl, rfl⟩ | ⟨g, cap, cur, rfl, _, hg, hle, _⟩
  · simp [Builtin.append_, run_underlying ht, sizeOf, typeInfo, hi, Builtin.lenOf, Builtin.firstCells, loadCells, loadCellsFrom]
  · simp [Builtin.append_, run_underlying ht, sizeOf, typeInfo, hi, Builtin.lenOf, Builtin.firstCells, loadCells, loadCellsFrom, hle]
    rfl

theorem Rp.row_news {α : Type} {d : Rp α} {w : World} {F : Nat → Prop} {b o : Nat} {ys : List α} (hc : ∀ j x, ys[j]? = some x → ∃ cs, d.rep w F x cs ∧ ∀ i u, cs[i]? = some u → w.cell? ⟨b, o + j * d.sz + i, none⟩ = some u) :
    ∃ news, Reps (d.rep w F) d.sz ys news ∧ (∀ j u, news[j]? = some u → w.cell? ⟨b, o + j, none⟩ = some u) ∧ ∀ u ∈ news, u.oneCell' = true := by
  have H : ∀ n, n ≤ ys.length → ∃ news, Reps (d.rep w F) d.sz (ys.take n) news ∧ (∀ j u, news[j]? = some u → w.cell? ⟨b, o + j, none⟩ = some u) ∧ ∀ u ∈ news, u.oneCell' = true := by
    intro n
    induction n with
    | zero => intro _; exact ⟨[], by simpa using Reps.nil _ _, by simp, by simp⟩
    | succ n ih =>
      intro hn
      obtain ⟨news, h1, h2, h3⟩ := ih (by omega)
      obtain ⟨x, hx⟩ : ∃ x, ys[n]? = some x := ⟨_, List.getElem?_eq_getElem (by omega)⟩
      obtain ⟨cs, hr, hcs⟩ := hc n x hx
      have hl : news.length = n * d.sz := by rw [h1.1, List.length_take, Nat.min_eq_left (by omega)]
      refine ⟨news ++ cs, ?_, fun j u hu => ?_, fun u hu => ?_⟩
      · rw [List.take_add_one, hx]
        exact Reps.append h1 (Reps.single hr (d.len hr))
      · rcases Nat.lt_or_ge j news.length with hj | hj
        · rw [List.getElem?_append_left hj] at hu
          exact h2 j u hu
        · rw [List.getElem?_append_right hj] at hu
          have := hcs _ u hu
          rw [hl] at this
          rw [show o + j = o + n * d.sz + (j - n * d.sz) by omega]
          exact this
      · rcases List.mem_append.1 hu with hu | hu
        · exact h3 u hu
        · exact d.one hr u hu
  have := H ys.length (Nat.le_refl _)
  rwa [List.take_length] at this

theorem Rp.own_appended2 {α : Type} {d : Rp α} {e : Nat} {w w1 : World} {F Fz : Nat → Prop} {v v1 : Value} {xs ys : List α} {news inner : List Value}
    (hr : Reps (d.rep w (fun k => F k ∧ some k ≠ v.ownBlock)) d.sz xs inner) (hy : Reps (d.rep w Fz) d.sz ys news) (hFz : ∀ k, Fz k → k < w.heap.size → some k ≠ v.ownBlock)
    (hown : w1.ownsRow 0 e d.sz v1 (xs.length + ys.length) (inner ++ news)) (hg : w.grownBy w1 v.ownBlock)
    (hat : v1.ownBlock = v.ownBlock ∨ ∃ b, v1.ownBlock = some b ∧ w.heap.size ≤ b) : d.own e w1 (fun k => (F k ∧ some k ≠ v.ownBlock) ∨ Fz k ∨ v1.ownBlock = some k) v1 (xs ++ ys) := by
  have hne : ∀ k, some k ≠ v.ownBlock → k < w.heap.size → some k ≠ v1.ownBlock := by
    intro k hk hl
    rcases hat with hat | ⟨b, hb, hle⟩
    · rw [hat]; exact hk
    · rw [hb]
      intro he
      injection he with he
      omega
  refine ⟨inner ++ news, by rw [List.length_append]; exact hown, fun k hk => .inr (.inr hk), Reps.append (hr.imp fun x c hc => d.move (fun k hk hl => ?_) hc) (hy.imp fun x c hc => d.move (fun k hk hl => ?_) hc)⟩
  · exact ⟨⟨.inl hk, hne k hk.2 hl⟩, Nat.lt_of_lt_of_le hl hg.size, hg.block k hl hk.2⟩
  · have h2 := hFz k hk hl
    exact ⟨⟨.inr (.inl hk), hne k h2 hl⟩, Nat.lt_of_lt_of_le hl hg.size, hg.block k hl h2⟩

/-- A row that is read; where its own block lies is not asked. -/
def Rp.row' {α : Type} (d : Rp α) (w : World) (F : Nat → Prop) (A : Option Addr) (xs : List α) : Prop :=
  xs = [] ∨ ∃ b o, A = some ⟨b, o, none⟩ ∧ ∀ j x, xs[j]? = some x → ∃ cs, d.rep w F x cs ∧ ∀ i u, cs[i]? = some u → w.cell? ⟨b, o + j * d.sz + i, none⟩ = some u
theorem Rp.row'_of {α : Type} {d : Rp α} {w : World} {F G : Nat → Prop} {A : Option Addr} {xs : List α} (h : d.row w F A xs) (hrep : ∀ x cs, d.rep w F x cs → d.rep w G x cs) : d.row' w G A xs := by
  rcases h with h | ⟨b, o, hA, _, _, hc⟩
  · exact .inl h
  · refine .inr ⟨b, o, hA, fun j x hx => ?_⟩
    obtain ⟨cs, h1, h2⟩ := hc j x hx
    exact ⟨cs, hrep x cs h1, h2⟩
/-- One element, laid in a block of its own. -/
theorem Rp.row'_one {α : Type} {d : Rp α} {w : World} {F : Nat → Prop} {x : α} {cs : List Value} (hr : d.rep w F x cs) {b : Nat} {e : TypeId} {fr : Nat × Nat} (hb : w.heap[b]? = some (.cells cs.toArray e fr)) : d.row' w F (some ⟨b, 0, none⟩) [x] := by
  refine .inr ⟨b, 0, rfl, fun j y hy => ?_⟩
  match j, hy with
  | 0, hy =>
    simp at hy
    subst hy
    refine ⟨cs, hr, fun i u hu => ?_⟩
    unfold World.cell?
    simp only [hb]
    simpa using hu
  | j + 1, hy => simp at hy

/-- What 'append(v, x...)' leaves. -/
theorem Rp.run_append_row {α : Type} (d : Rp α) {P : Program} {e : Nat} {w : World} {F Fz : Nat → Prop} {v : Value} {xs ys : List α} {A : Option Addr} {c : Nat} (HO : d.own e w F v xs) (HY : d.row' w Fz A ys)
    (hFy : ∀ k, Fz k → k < w.heap.size → some k ≠ v.ownBlock) (t ty : TypeId) (z : Value) (bytes : Nat)
    (ht : P.underlying t = some (.slice e)) (hinfo : (P.info? e).map (fun i => (i.zero, i.size, i.bytes)) = some (some z, d.sz, bytes)) (hz : z.cells.size = d.sz) (hs0 : 0 < d.sz) (hb0 : 0 < bytes) (hl : (xs.length + ys.length) * bytes ≤ 140737488355328) :
    ∃ v1 w1, (Builtin.append_ #[t, t] ty #[v, .slice A ys.length c]).run P w = .ok v1 w1 ∧ d.own e w1 (fun k => (F k ∧ some k ≠ v.ownBlock) ∨ Fz k ∨ v1.ownBlock = some k) v1 (xs ++ ys) ∧ Upd (fun k => v.ownBlock = some k) w w1 ∧ (v1.ownBlock = v.ownBlock ∨ ∃ b, v1.ownBlock = some b ∧ w.heap.size ≤ b) := by
  obtain ⟨inner, hown, hF, hr⟩ := HO
  obtain ⟨i0, hi, hzz⟩ := Option.map_eq_some_iff.1 hinfo
  simp only [Prod.mk.injEq] at hzz
  obtain ⟨hz0, hz1, hz2⟩ := hzz
  have hlen : xs.length + ys.length ≤ 140737488355328 := Nat.le_trans (Nat.le_mul_of_pos_right _ hb0) hl
  have main : ∀ (ad : Addr) (news : List Value), Reps (d.rep w Fz) d.sz ys news → (∀ j u, news[j]? = some u → w.cell? (ad.add j) = some u) → (∀ u ∈ news, u.oneCell' = true) →
      ∃ v1 w1, (Builtin.append_ #[t, t] ty #[v, .slice (some ad) ys.length c]).run P w = .ok v1 w1 ∧ d.own e w1 (fun k => (F k ∧ some k ≠ v.ownBlock) ∨ Fz k ∨ v1.ownBlock = some k) v1 (xs ++ ys) ∧ Upd (fun k => v.ownBlock = some k) w w1 ∧ (v1.ownBlock = v.ownBlock ∨ ∃ b, v1.ownBlock = some b ∧ w.heap.size ≤ b) := by
    intro ad news hreps hnews h1
    obtain ⟨v1, w1, hrun, hown1, hg, _, hat⟩ := run_append_own_at (P := P) w 0 t ty e i0 z d.sz bytes ht hi hz0 hz1 hz2 hz hs0 v xs.length inner hown ad ys.length c news hreps.1 hnews h1 (by simp only [maxLen]; omega) hl (by omega)
    have hat' : v1.ownBlock = v.ownBlock ∨ ∃ b, v1.ownBlock = some b ∧ w.heap.size ≤ b := by
      rcases hat with hat | hat
      · exact .inl hat
      · exact .inr ⟨_, hat, Nat.le_refl _⟩
    exact ⟨v1, w1, hrun, Rp.own_appended2 hr hreps hFy hown1 hg hat', Upd.grown1 hg (fun k hk => hk), hat'⟩
  rcases HY with rfl | ⟨b, o, rfl, hc⟩
  · cases A with
    | none =>
      refine ⟨v, w, run_append_nothing hown i0 ht hi, ?_, Upd.refl _ _, .inl rfl⟩
      rw [List.append_nil]
      exact ⟨inner, hown, fun k hk => .inr (.inr hk), hr.imp fun x c hc => d.move (fun k hk hl => ⟨⟨.inl hk, hk.2⟩, hl, rfl⟩) hc⟩
    | some ad => exact main ad [] (Reps.nil _ _) (by simp) (by simp)
  · obtain ⟨news, h1, h2, h3⟩ := Rp.row_news hc
    refine main ⟨b, o, none⟩ news h1 (fun j u hu => ?_) h3
    have hadd : (⟨b, o, none⟩ : Addr).add j = ⟨b, o + j, none⟩ := by unfold Addr.add; split <;> simp_all
    rw [hadd]
    exact h2 j u hu

section
variable {P : Program} {ops : Array Oper} {rest : List Oper} {o : Oper} {a : Act} {Q : Exit → Act → World → Prop} {K : Act → World → Prop} {E : Prop}
theorem Rp.wp_append_row {α : Type} (d : Rp α) {e : Nat} {w : World} {F Fz : Nat → Prop} {v : Value} {xs ys : List α} {A : Option Addr} {c : Nat} (HO : d.own e w F v xs) (HY : d.row' w Fz A ys)
    (hFy : ∀ k, Fz k → k < w.heap.size → some k ≠ v.ownBlock)
    (s x : Operand) (t : TypeId) (z : Value) (bytes : Nat) (ho : o.op = .call { callee := .builtin .append, args := #[s, x], argTypes := #[t, t] })
    (ht : P.underlying t = some (.slice e)) (hinfo : (P.info? e).map (fun i => (i.zero, i.size, i.bytes)) = some (some z, d.sz, bytes)) (hz : z.cells.size = d.sz) (hs0 : 0 < d.sz) (hb0 : 0 < bytes)
    (hs : a.eval s = v) (hx : a.eval x = .slice A ys.length c) (hl : (xs.length + ys.length) * bytes ≤ 140737488355328)
    (h : ∀ v1 w1, d.own e w1 (fun k => (F k ∧ some k ≠ v.ownBlock) ∨ Fz k ∨ v1.ownBlock = some k) v1 (xs ++ ys) → Upd (fun k => v.ownBlock = some k) w w1 → (v1.ownBlock = v.ownBlock ∨ ∃ b, v1.ownBlock = some b ∧ w.heap.size ≤ b) → K (a.put o.dst v1) w1) : o.wp P a w K Q := by
  obtain ⟨v1, w1, hr, h2, h3, h4⟩ := Rp.run_append_row d (P := P) (c := c) HO HY hFy t o.type z bytes ht hinfo hz hs0 hb0 hl
  unfold Oper.wp execOp
  simp only [ho, resolve, invoke, builtin, Sem.run_bind, Sem.run_pure, Result.andThen_ok, List.map_toArray, List.map_cons, List.map_nil, hs, hx, hr]
  exact h v1 w1 h2 h3 h4
theorem Rp.append_row {α : Type} (d : Rp α) {e : Nat} {w : World} {F Fz : Nat → Prop} {v : Value} {xs ys : List α} {A : Option Addr} {c : Nat} (HO : d.own e w F v xs) (HY : d.row' w Fz A ys)
    (hFy : ∀ k, Fz k → k < w.heap.size → some k ≠ v.ownBlock) (hgd : o.guard = none)
    (s x : Operand) (t : TypeId) (z : Value) (bytes : Nat) (ho : o.op = .call { callee := .builtin .append, args := #[s, x], argTypes := #[t, t] })
    (ht : P.underlying t = some (.slice e)) (hinfo : (P.info? e).map (fun i => (i.zero, i.size, i.bytes)) = some (some z, d.sz, bytes)) (hz : z.cells.size = d.sz) (hs0 : 0 < d.sz) (hb0 : 0 < bytes)
    (hs : a.eval s = v) (hx : a.eval x = .slice A ys.length c) (hl : (xs.length + ys.length) * bytes ≤ 140737488355328)
    (h : ∀ v1 w1, d.own e w1 (fun k => (F k ∧ some k ≠ v.ownBlock) ∨ Fz k ∨ v1.ownBlock = some k) v1 (xs ++ ys) → Upd (fun k => v.ownBlock = some k) w w1 → (v1.ownBlock = v.ownBlock ∨ ∃ b, v1.ownBlock = some b ∧ w.heap.size ≤ b) → wpList P ops Q rest (a.put o.dst v1) w1) : wpList P ops Q (o :: rest) a w :=
  wpList_plain hgd fun _ hK => Rp.wp_append_row d HO HY hFy s x t z bytes ho ht hinfo hz hs0 hb0 hs hx hl fun v1 w1 h2 h3 h4 => hK _ _ (h v1 w1 h2 h3 h4)
theorem Rp.step_append_row {α : Type} (d : Rp α) {e : Nat} {w : World} {F Fz : Nat → Prop} {v : Value} {xs ys : List α} {A : Option Addr} {c : Nat} (HO : d.own e w F v xs) (HY : d.row' w Fz A ys)
    (hFy : ∀ k, Fz k → k < w.heap.size → some k ≠ v.ownBlock) (hgd : o.guard = none)
    (s x : Operand) (t : TypeId) (z : Value) (bytes : Nat) (ho : o.op = .call { callee := .builtin .append, args := #[s, x], argTypes := #[t, t] })
    (ht : P.underlying t = some (.slice e)) (hinfo : (P.info? e).map (fun i => (i.zero, i.size, i.bytes)) = some (some z, d.sz, bytes)) (hz : z.cells.size = d.sz) (hs0 : 0 < d.sz) (hb0 : 0 < bytes)
    (hs : a.eval s = v) (hx : a.eval x = .slice A ys.length c) (hl : (xs.length + ys.length) * bytes ≤ 140737488355328)
    (h : ∀ v1 w1, d.own e w1 (fun k => (F k ∧ some k ≠ v.ownBlock) ∨ Fz k ∨ v1.ownBlock = some k) v1 (xs ++ ys) → Upd (fun k => v.ownBlock = some k) w w1 → (v1.ownBlock = v.ownBlock ∨ ∃ b, v1.ownBlock = some b ∧ w.heap.size ≤ b) → K (a.put o.dst v1) w1) :
    if Region.wanted o (yielded ops a.tmps) = true then Oper.wp P o a w K Q else E := by
  have hw : Region.wanted o (yielded ops a.tmps) = true := by simp [Region.wanted, hgd]
  rw [if_pos hw]
  exact Rp.wp_append_row d HO HY hFy s x t z bytes ho ht hinfo hz hs0 hb0 hs hx hl h
end
end Go.Proofs.YtfapglhdakhbeaaDoor
