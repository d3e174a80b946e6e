/- append(own, row...): a row that is read, behind a row of the call's own. A drawn region whose LAST operation (L: a store) breaks what the loads ahead of it read: S is asked behind every operation but L. (The walk is wip/emmac.py's '%regionT'.) Drawn regions, shorter still: what taking an operation asks is shown by itself. -/
import Derived.Test.YtfapglhdakhbeaaGreatDoorBase
import Derived.Deep.AppendLies
import Derived.OrdersHeld
import Derived.Deep.RegionHeld
namespace Go.Proofs.YtfapglhdakhbeaaGreatDoor
open Go.RowKit
set_option linter.unusedVariables false
set_option linter.unusedSimpArgs false

theorem run_append_nothing {P : Program} {w : World} {t ty e : TypeId} {size n c : Nat} {v : Value} {xs : List Value} (hown : w.ownsRow 0 e size v n xs) (i : TypeInfo) (ht : P.underlying t = some (.slice e)) (hi : P.info? e = some i) :
    (Builtin.append_ #[t, t] ty #[v, .slice none 0 c]).run P w = .ok v w := by
  rcases hown.2 with ⟨rfl, rfl⟩ | ⟨g, cap, cur, rfl, _, hg, hle, _⟩
  · simp [Builtin.append_, run_underlying ht, sizeOf, typeInfo, hi, Builtin.lenOf, Builtin.firstCells, loadCells, loadCellsFrom]
  · simp [Builtin.append_, run_underlying ht, sizeOf, typeInfo, hi, Builtin.lenOf, Builtin.firstCells, loadCells, loadCellsFrom, hle]
    rfl

theorem Rp.row_news {α : Type} {d : Rp α} {w : World} {F : Nat → Prop} {b o : Nat} {ys : List α} (hc : ∀ j x, ys[j]? = some x → ∃ cs, d.rep w F x cs ∧ ∀ i u, cs[i]? = some u → w.cell? ⟨b, o + j * d.sz + i, none⟩ = some u) :
    ∃ news, Reps (d.rep w F) d.sz ys news ∧ (∀ j u, news[j]? = some u → w.cell? ⟨b, o + j, none⟩ = some u) ∧ ∀ u ∈ news, u.oneCell' = true := by
  have H : ∀ n, n ≤ ys.length → ∃ news, Reps (d.rep w F) d.sz (ys.take n) news ∧ (∀ j u, news[j]? = some u → w.cell? ⟨b, o + j, none⟩ = some u) ∧ ∀ u ∈ news, u.oneCell' = true := by
    intro n
    induction n with
    | zero => intro _; exact ⟨[], by simpa using Reps.nil _ _, by simp, by simp⟩
    | succ n ih =>
      intro hn
      obtain ⟨news, h1, h2, h3⟩ := ih (by omega)
      obtain ⟨x, hx⟩ : ∃ x, ys[n]? = some x := ⟨_, List.getElem?_eq_getElem (by omega)⟩
      obtain ⟨cs, hr, hcs⟩ := hc n x hx
      have hl : news.length = n * d.sz := by rw [h1.1, List.length_take, Nat.min_eq_left (by omega)]
      refine ⟨news ++ cs, ?_, fun j u hu => ?_, fun u hu => ?_⟩
      · rw [List.take_add_one, hx]
        exact Reps.append h1 (Reps.single hr (d.len hr))
      · rcases Nat.lt_or_ge j news.length with hj | hj
        · rw [List.getElem?_append_left hj] at hu
          exact h2 j u hu
        · rw [List.getElem?_append_right hj] at hu
          have := hcs _ u hu
          rw [hl] at this
          rw [show o + j = o + n * d.sz + (j - n * d.sz) by omega]
          exact this
      · rcases List.mem_append.1 hu with hu | hu
        · exact h3 u hu
        · exact d.one hr u hu
  have := H ys.length (Nat.le_refl _)
  rwa [List.take_length] at this

theorem Rp.own_appended2 {α : Type} {d : Rp α} {e : Nat} {w w1 : World} {F Fz : Nat → Prop} {v v1 : Value} {xs ys : List α} {news inner : List Value}
    (hr : Reps (d.rep w (fun k => F k ∧ some k ≠ v.ownBlock)) d.sz xs inner) (hy : Reps (d.rep w Fz) d.sz ys news) (hFz : ∀ k, Fz k → k < w.heap.size → some k ≠ v.ownBlock)
    (hown : w1.ownsRow 0 e d.sz v1 (xs.length + ys.length) (inner ++ news)) (hg : w.grownBy w1 v.ownBlock)
    (hat : v1.ownBlock = v.ownBlock ∨ ∃ b, v1.ownBlock = some b ∧ w.heap.size ≤ b) : d.own e w1 (fun k => (F k ∧ some k ≠ v.ownBlock) ∨ Fz k ∨ v1.ownBlock = some k) v1 (xs ++ ys) := by
  have hne : ∀ k, some k ≠ v.ownBlock → k < w.heap.size → some k ≠ v1.ownBlock := by
    intro k hk hl
    rcases hat with hat | ⟨b, hb, hle⟩
    · rw [hat]; exact hk
    · rw [hb]
      intro he
      injection he with he
      omega
  refine ⟨inner ++ news, by rw [List.length_append]; exact hown, fun k hk => .inr (.inr hk), Reps.append (hr.imp fun x c hc => d.move (fun k hk hl => ?_) hc) (hy.imp fun x c hc => d.move (fun k hk hl => ?_) hc)⟩
  · exact ⟨⟨.inl hk, hne k hk.2 hl⟩, Nat.lt_of_lt_of_le hl hg.size, hg.block k hl hk.2⟩
  · have h2 := hFz k hk hl
    exact ⟨⟨.inr (.inl hk), hne k h2 hl⟩, Nat.lt_of_lt_of_le hl hg.size, hg.block k hl h2⟩

/-- A row that is read; where its own block lies is not asked. -/
def Rp.row' {α : Type} (d : Rp α) (w : World) (F : Nat → Prop) (A : Option Addr) (xs : List α) : Prop :=
  xs = [] ∨ ∃ b o, A = some ⟨b, o, none⟩ ∧ ∀ j x, xs[j]? = some x → ∃ cs, d.rep w F x cs ∧ ∀ i u, cs[i]? = some u → w.cell? ⟨b, o + j * d.sz + i, none⟩ = some u
theorem Rp.row'_of {α : Type} {d : Rp α} {w : World} {F G : Nat → Prop} {A : Option Addr} {xs : List α} (h : d.row w F A xs) (hrep : ∀ x cs, d.rep w F x cs → d.rep w G x cs) : d.row' w G A xs := by
  rcases h with h | ⟨b, o, hA, _, _, hc⟩
  · exact .inl h
  · refine .inr ⟨b, o, hA, fun j x hx => ?_⟩
    obtain ⟨cs, h1, h2⟩ := hc j x hx
    exact ⟨cs, hrep x cs h1, h2⟩
/-- One element, laid in a block of its own. -/
theorem Rp.row'_one {α : Type} {d : Rp α} {w : World} {F : Nat → Prop} {x : α} {cs : List Value} (hr : d.rep w F x cs) {b : Nat} {e : TypeId} {fr : Nat × Nat} (hb : w.heap[b]? = some (.cells cs.toArray e fr)) : d.row' w F (some ⟨b, 0, none⟩) [x] := by
  refine .inr ⟨b, 0, rfl, fun j y hy => ?_⟩
  match j, hy with
  | 0, hy =>
    simp at hy
    subst hy
    refine ⟨cs, hr, fun i u hu => ?_⟩
    unfold World.cell?
    simp only [hb]
    simpa using hu
  | j + 1, hy => simp at hy

/-- What 'append(v, x...)' leaves. -/
theorem Rp.run_append_row {α : Type} (d : Rp α) {P : Program} {e : Nat} {w : World} {F Fz : Nat → Prop} {v : Value} {xs ys : List α} {A : Option Addr} {c : Nat} (HO : d.own e w F v xs) (HY : d.row' w Fz A ys)
    (hFy : ∀ k, Fz k → k < w.heap.size → some k ≠ v.ownBlock) (t ty : TypeId) (z : Value) (bytes : Nat)
    (ht : P.underlying t = some (.slice e)) (hinfo : (P.info? e).map (fun i => (i.zero, i.size, i.bytes)) = some (some z, d.sz, bytes)) (hz : z.cells.size = d.sz) (hs0 : 0 < d.sz) (hb0 : 0 < bytes) (hl : (xs.length + ys.length) * bytes ≤ 140737488355328) :
    ∃ v1 w1, (Builtin.append_ #[t, t] ty #[v, .slice A ys.length c]).run P w = .ok v1 w1 ∧ d.own e w1 (fun k => (F k ∧ some k ≠ v.ownBlock) ∨ Fz k ∨ v1.ownBlock = some k) v1 (xs ++ ys) ∧ Upd (fun k => v.ownBlock = some k) w w1 ∧ (v1.ownBlock = v.ownBlock ∨ ∃ b, v1.ownBlock = some b ∧ w.heap.size ≤ b) := by
  obtain ⟨inner, hown, hF, hr⟩ := HO
  obtain ⟨i0, hi, hzz⟩ := Option.map_eq_some_iff.1 hinfo
  simp only [Prod.mk.injEq] at hzz
  obtain ⟨hz0, hz1, hz2⟩ := hzz
  have hlen : xs.length + ys.length ≤ 140737488355328 := Nat.le_trans (Nat.le_mul_of_pos_right _ hb0) hl
  have main : ∀ (ad : Addr) (news : List Value), Reps (d.rep w Fz) d.sz ys news → (∀ j u, news[j]? = some u → w.cell? (ad.add j) = some u) → (∀ u ∈ news, u.oneCell' = true) →
      ∃ v1 w1, (Builtin.append_ #[t, t] ty #[v, .slice (some ad) ys.length c]).run P w = .ok v1 w1 ∧ d.own e w1 (fun k => (F k ∧ some k ≠ v.ownBlock) ∨ Fz k ∨ v1.ownBlock = some k) v1 (xs ++ ys) ∧ Upd (fun k => v.ownBlock = some k) w w1 ∧ (v1.ownBlock = v.ownBlock ∨ ∃ b, v1.ownBlock = some b ∧ w.heap.size ≤ b) := by
    intro ad news hreps hnews h1
    obtain ⟨v1, w1, hrun, hown1, hg, _, hat⟩ := run_append_own_at (P := P) w 0 t ty e i0 z d.sz bytes ht hi hz0 hz1 hz2 hz hs0 v xs.length inner hown ad ys.length c news hreps.1 hnews h1 (by simp only [maxLen]; omega) hl (by omega)
    have hat' : v1.ownBlock = v.ownBlock ∨ ∃ b, v1.ownBlock = some b ∧ w.heap.size ≤ b := by
      rcases hat with hat | hat
      · exact .inl hat
      · exact .inr ⟨_, hat, Nat.le_refl _⟩
    exact ⟨v1, w1, hrun, Rp.own_appended2 hr hreps hFy hown1 hg hat', Upd.grown1 hg (fun k hk => hk), hat'⟩
  rcases HY with rfl | ⟨b, o, rfl, hc⟩
  · cases A with
    | none =>
      refine ⟨v, w, run_append_nothing hown i0 ht hi, ?_, Upd.refl _ _, .inl rfl⟩
      rw [List.append_nil]
      exact ⟨inner, hown, fun k hk => .inr (.inr hk), hr.imp fun x c hc => d.move (fun k hk hl => ⟨⟨.inl hk, hk.2⟩, hl, rfl⟩) hc⟩
    | some ad => exact main ad [] (Reps.nil _ _) (by simp) (by simp)
  · obtain ⟨news, h1, h2, h3⟩ := Rp.row_news hc
    refine main ⟨b, o, none⟩ news h1 (fun j u hu => ?_) h3
    have hadd : (⟨b, o, none⟩ : Addr).add j = ⟨b, o + j, none⟩ := by unfold Addr.add; split <;> simp_all
    rw [hadd]
    exact h2 j u hu

section
variable {P : Program} {ops : Array Oper} {rest : List Oper} {o : Oper} {a : Act} {Q : Exit → Act → World → Prop} {K : Act → World → Prop} {E : Prop}
theorem Rp.wp_append_row {α : Type} (d : Rp α) {e : Nat} {w : World} {F Fz : Nat → Prop} {v : Value} {xs ys : List α} {A : Option Addr} {c : Nat} (HO : d.own e w F v xs) (HY : d.row' w Fz A ys)
    (hFy : ∀ k, Fz k → k < w.heap.size → some k ≠ v.ownBlock)
    (s x : Operand) (t : TypeId) (z : Value) (bytes : Nat) (ho : o.op = .call { callee := .builtin .append, args := #[s, x], argTypes := #[t, t] })
    (ht : P.underlying t = some (.slice e)) (hinfo : (P.info? e).map (fun i => (i.zero, i.size, i.bytes)) = some (some z, d.sz, bytes)) (hz : z.cells.size = d.sz) (hs0 : 0 < d.sz) (hb0 : 0 < bytes)
    (hs : a.eval s = v) (hx : a.eval x = .slice A ys.length c) (hl : (xs.length + ys.length) * bytes ≤ 140737488355328)
    (h : ∀ v1 w1, d.own e w1 (fun k => (F k ∧ some k ≠ v.ownBlock) ∨ Fz k ∨ v1.ownBlock = some k) v1 (xs ++ ys) → Upd (fun k => v.ownBlock = some k) w w1 → (v1.ownBlock = v.ownBlock ∨ ∃ b, v1.ownBlock = some b ∧ w.heap.size ≤ b) → K (a.put o.dst v1) w1) : o.wp P a w K Q := by
  obtain ⟨v1, w1, hr, h2, h3, h4⟩ := Rp.run_append_row d (P := P) (c := c) HO HY hFy t o.type z bytes ht hinfo hz hs0 hb0 hl
  unfold Oper.wp execOp
  simp only [ho, resolve, invoke, builtin, Sem.run_bind, Sem.run_pure, Result.andThen_ok, List.map_toArray, List.map_cons, List.map_nil, hs, hx, hr]
  exact h v1 w1 h2 h3 h4
theorem Rp.append_row {α : Type} (d : Rp α) {e : Nat} {w : World} {F Fz : Nat → Prop} {v : Value} {xs ys : List α} {A : Option Addr} {c : Nat} (HO : d.own e w F v xs) (HY : d.row' w Fz A ys)
    (hFy : ∀ k, Fz k → k < w.heap.size → some k ≠ v.ownBlock) (hgd : o.guard = none)
    (s x : Operand) (t : TypeId) (z : Value) (bytes : Nat) (ho : o.op = .call { callee := .builtin .append, args := #[s, x], argTypes := #[t, t] })
    (ht : P.underlying t = some (.slice e)) (hinfo : (P.info? e).map (fun i => (i.zero, i.size, i.bytes)) = some (some z, d.sz, bytes)) (hz : z.cells.size = d.sz) (hs0 : 0 < d.sz) (hb0 : 0 < bytes)
    (hs : a.eval s = v) (hx : a.eval x = .slice A ys.length c) (hl : (xs.length + ys.length) * bytes ≤ 140737488355328)
    (h : ∀ v1 w1, d.own e w1 (fun k => (F k ∧ some k ≠ v.ownBlock) ∨ Fz k ∨ v1.ownBlock = some k) v1 (xs ++ ys) → Upd (fun k => v.ownBlock = some k) w w1 → (v1.ownBlock = v.ownBlock ∨ ∃ b, v1.ownBlock = some b ∧ w.heap.size ≤ b) → wpList P ops Q rest (a.put o.dst v1) w1) : wpList P ops Q (o :: rest) a w :=
  wpList_plain hgd fun _ hK => Rp.wp_append_row d HO HY hFy s x t z bytes ho ht hinfo hz hs0 hb0 hs hx hl fun v1 w1 h2 h3 h4 => hK _ _ (h v1 w1 h2 h3 h4)
theorem Rp.step_append_row {α : Type} (d : Rp α) {e : Nat} {w : World} {F Fz : Nat → Prop} {v : Value} {xs ys : List α} {A : Option Addr} {c : Nat} (HO : d.own e w F v xs) (HY : d.row' w Fz A ys)
    (hFy : ∀ k, Fz k → k < w.heap.size → some k ≠ v.ownBlock) (hgd : o.guard = none)
    (s x : Operand) (t : TypeId) (z : Value) (bytes : Nat) (ho : o.op = .call { callee := .builtin .append, args := #[s, x], argTypes := #[t, t] })
    (ht : P.underlying t = some (.slice e)) (hinfo : (P.info? e).map (fun i => (i.zero, i.size, i.bytes)) = some (some z, d.sz, bytes)) (hz : z.cells.size = d.sz) (hs0 : 0 < d.sz) (hb0 : 0 < bytes)
    (hs : a.eval s = v) (hx : a.eval x = .slice A ys.length c) (hl : (xs.length + ys.length) * bytes ≤ 140737488355328)
    (h : ∀ v1 w1, d.own e w1 (fun k => (F k ∧ some k ≠ v.ownBlock) ∨ Fz k ∨ v1.ownBlock = some k) v1 (xs ++ ys) → Upd (fun k => v.ownBlock = some k) w w1 → (v1.ownBlock = v.ownBlock ∨ ∃ b, v1.ownBlock = some b ∧ w.heap.size ≤ b) → K (a.put o.dst v1) w1) :
    if Region.wanted o (yielded ops a.tmps) = true then Oper.wp P o a w K Q else E := by
  have hw : Region.wanted o (yielded ops a.tmps) = true := by simp [Region.wanted, hgd]
  rw [if_pos hw]
  exact Rp.wp_append_row d HO HY hFy s x t z bytes ho ht hinfo hz hs0 hb0 hs hx hl h
end
end Go.Proofs.YtfapglhdakhbeaaGreatDoor
namespace Go.Proofs.YtfapglhdakhbeaaGreatDoor
open Go
section
variable {P : Program} {ops : Array Oper} {Q : Exit → Act → World → Prop} {md : Region.Mode} {S : World → Prop} {L : Nat}

def wpAnyT (P : Program) (md : Region.Mode) (ops : Array Oper) (Q : Exit → Act → World → Prop) (S : World → Prop) (L : Nat) : Nat → Array Bool → Act → World → Prop
  | 0, listed, a, w => Region.ready md ops listed = [] ∧ Q .normal a w
  | fuel + 1, listed, a, w =>
    (Region.ready md ops listed = [] → Q .normal a w) ∧
    ∀ i ∈ Region.ready md ops listed, wpOp P ops Q i (fun a' w' => (i ≠ L → S w') ∧ wpAnyT P md ops Q S L fuel (listed.setIfInBounds i true) a' w') a w

theorem wpAny_of_T : ∀ (fuel : Nat) (listed : Array Bool) (a : Act) (w : World), wpAnyT P md ops Q S L fuel listed a w → wpAny P md ops Q fuel listed a w
  | 0, _, _, _, h => h
  | fuel + 1, _, _, _, h => ⟨h.1, fun i hi => wpOp_mono (fun a' w' h' => wpAny_of_T fuel _ a' w' h'.2) (h.2 i hi)⟩

theorem wpAnyT_first {i : Nat} {oi : Oper} {v : Value} (hi : ops[i]? = some oi) (hsel : ∀ (j : Nat) (o : Oper) cs b, ops[j]? = some o → o.op ≠ .select cs b)
    (hQ : ∀ c a w, Q (.panic c) (a.put oi.dst v) w → Q (.panic c) a w) (hL : ∃ oL, ops[L]? = some oL ∧ ∃ e ∈ oL.after, Region.binds md e = true ∧ e.on = i) :
    ∀ (fuel : Nat) (listed : Array Bool) (a : Act) (w : World),
      (∀ j oj, ops[j]? = some oj → j ≠ i → listed.getD j true = false → (∀ e ∈ oj.after, Region.binds md e = true → e.on ≠ i) → oi.apart ops oj = true) →
      i ∈ Region.ready md ops listed → YieldsIf P ops S oi v a → S w →
      wpAnyT P md ops Q S L fuel (listed.setIfInBounds i true) (a.put oi.dst v) w → wpAnyT P md ops Q S L (fuel + 1) listed a w := by
  have notL : ∀ (listed : Array Bool) (j : Nat), i ∈ Region.ready md ops listed → j ∈ Region.ready md ops listed → j ≠ L := by
    rintro listed j hr hj rfl
    obtain ⟨oL, hoL, e, he, hb, heq⟩ := hL
    obtain ⟨_, oj, hoj, hall⟩ := mem_ready.1 hj
    rw [hoL] at hoj
    cases hoj
    have h1 := hall e he hb
    have h0 := (mem_ready.1 hr).1
    rw [heq] at h1
    rcases Nat.lt_or_ge i listed.size with h' | h'
    · simp [h'] at h0 h1; rw [h0] at h1; cases h1
    · simp [Array.getElem?_eq_none h'] at h1
  intro fuel
  induction fuel with
  | zero =>
    intro listed a w _ hr hy hS H
    refine ⟨fun h => (by rw [h] at hr; cases hr), fun j hj => ?_⟩
    by_cases hji : j = i
    · subst hji; exact hy.wpOp hi hS ⟨fun _ => hS, H⟩
    · have := ready_mono hj hji
      rw [H.1] at this
      cases this
  | succ fuel ih =>
    intro listed a w hfree hr hy hS H
    refine ⟨fun h => (by rw [h] at hr; cases hr), fun j hj => ?_⟩
    by_cases hji : j = i
    · subst hji; exact hy.wpOp hi hS ⟨fun _ => hS, H⟩
    · have hjL := notL listed j hr hj
      have h1 := H.2 j (ready_mono hj hji)
      obtain ⟨hjun, oj, hoj, hall⟩ := mem_ready.1 hj
      have hnot : ∀ e ∈ oj.after, Region.binds md e = true → e.on ≠ i := fun e he hb heq => by
        have h1 := hall e he hb
        have h0 := (mem_ready.1 hr).1
        rw [heq] at h1
        rcases Nat.lt_or_ge i listed.size with h' | h'
        · simp [h'] at h0 h1; rw [h0] at h1; cases h1
        · simp [Array.getElem?_eq_none h'] at h1
      have h2 := wpOp_putIf hoj (hfree j oj hoj hji hjun hnot) (fun cs b => hsel i oi cs b hi) (fun cs b => hsel j oj cs b hoj) hQ hy h1
      have hfree' : ∀ k ok, ops[k]? = some ok → k ≠ i → (listed.setIfInBounds j true).getD k true = false →
          (∀ e ∈ ok.after, Region.binds md e = true → e.on ≠ i) → oi.apart ops ok = true := fun k ok hk hki hun hno => by
        refine hfree k ok hk hki ?_ hno
        by_cases hjk : j = k
        · subst hjk; exact hjun
        · rw [getD_set_ne true hjk] at hun; exact hun
      refine wpOp_mono (fun a' w' h3 => ⟨h3.2.1, ih (listed.setIfInBounds j true) a' w' hfree' (ready_mono hr (Ne.symm hji)) h3.1 (h3.2.1 hjL) ?_⟩) h2
      rw [Array.setIfInBounds_comm _ _ hji]
      exact h3.2.2

def waitsOn (md : Region.Mode) (ops : Array Oper) (L i : Nat) : Bool := match ops[L]? with
  | some o => o.after.any fun e => Region.binds md e && e.on == i
  | none => false
theorem waitsOn_spec {i : Nat} (h : waitsOn md ops L i = true) : ∃ oL, ops[L]? = some oL ∧ ∃ e ∈ oL.after, Region.binds md e = true ∧ e.on = i := by
  unfold waitsOn at h
  split at h
  · rename_i o ho
    obtain ⟨e, he, hb⟩ := Array.any_eq_true'.1 h
    simp only [Bool.and_eq_true, beq_iff_eq] at hb
    exact ⟨o, ho, e, he, hb.1, hb.2⟩
  · cases h
theorem wpAnyT_take {i : Nat} {oi : Oper} {v : Value} {fuel : Nat} {listed : Array Bool} {a : Act} {w : World} (hi : ops[i]? = some oi)
    (hs : Region.noSelect ops = true) (hf : Region.free md ops listed i = true) (hr : (Region.ready md ops listed).contains i = true) (hL : waitsOn md ops L i = true)
    (hQ : ∀ c a w, Q (.panic c) (a.put oi.dst v) w → Q (.panic c) a w) (hy : YieldsIf P ops S oi v a) (hS : S w)
    (h : wpAnyT P md ops Q S L fuel (listed.setIfInBounds i true) (a.put oi.dst v) w) : wpAnyT P md ops Q S L (fuel + 1) listed a w :=
  wpAnyT_first hi (Region.noSelect_spec hs) hQ (waitsOn_spec hL) fuel listed a w (Region.free_spec hi hf) (by simpa using hr) hy hS h
theorem wpAnyT_one {i : Nat} {o : Oper} {fuel : Nat} {listed : Array Bool} {a : Act} {w : World} (hr : Region.ready md ops listed = [i]) (ho : ops[i]? = some o)
    (h : ∀ K' : Act → World → Prop, Shut (∀ a w, (i ≠ L → S w) → ((i ≠ L → S w) → wpAnyT P md ops Q S L fuel (listed.setIfInBounds i true) a w) → K' a w) → if Region.wanted o (yielded ops a.tmps) = true then Oper.wp P o a w K' Q else K' (a.put o.dst undef) w) :
    wpAnyT P md ops Q S L (fuel + 1) listed a w := by
  refine ⟨fun h => (by rw [hr] at h; cases h), fun j hj => ?_⟩
  rw [hr] at hj
  obtain rfl := List.mem_singleton.1 hj
  exact wpOp_step ho (fun K' hK => h K' (fun a w hS hW => hK a w ⟨hS, hW hS⟩))
theorem wpAnyT_done {listed : Array Bool} {a : Act} {w : World} (hr : Region.ready md ops listed = []) (h : Q .normal a w) : ∀ fuel, wpAnyT P md ops Q S L fuel listed a w
  | 0 => ⟨hr, h⟩
  | _ + 1 => ⟨fun _ => h, by rw [hr]; simp⟩
theorem wp_region_T (S : World → Prop) (L : Nat) {id : Nat} {a : Act} {w : World} (hm : P.follows .mixedOrders = true) (hS : S w.drew)
    (h : S w.drew → wpAnyT P .any ops Q S L ops.size (Array.replicate ops.size false) a w.drew) : (Code.region id ops true).wp P Q a w :=
  wp_region_any hm (wpAny_of_T _ _ _ _ (h hS))
theorem opAt {l : List Oper} {i : Nat} {o : Oper} (h : l[i]? = some o) : (l.toArray)[i]? = some o := by simpa using h
def okH (md : Region.Mode) (ops : Array Oper) (listed : Array Bool) (i : Nat) : Bool := Region.noSelect ops && (Region.free md ops listed i && (Region.ready md ops listed).contains i)
theorem okH_iff {listed : Array Bool} {i : Nat} (h : okH md ops listed i = true) : Region.noSelect ops = true ∧ Region.free md ops listed i = true ∧ (Region.ready md ops listed).contains i = true := by
  unfold okH at h
  rw [Bool.and_eq_true, Bool.and_eq_true] at h
  exact h
theorem takeH (i : Nat) {oi : Oper} {v : Value} {fuel : Nat} {listed : Array Bool} {a : Act} {w : World} (hi : ops[i]? = some oi) (hc : okH md ops listed i = true)
    (hQ : ∀ c a w, Q (.panic c) (a.put oi.dst v) w → Q (.panic c) a w) (h1 : Region.wanted oi (yielded ops a.tmps) = true) (h2 : ∀ w, S w → (execOp a.eval oi).run P w = .ok (.value v) w) (hS : S w)
    (h : wpAnyH P md ops Q S fuel (listed.setIfInBounds i true) (a.put oi.dst v) w) : wpAnyH P md ops Q S (fuel + 1) listed a w :=
  wpAnyH_take hi (okH_iff hc).1 (okH_iff hc).2.1 (okH_iff hc).2.2 hQ (Or.inl ⟨h1, h2⟩) hS h
theorem takeT (i : Nat) {oi : Oper} {v : Value} {fuel : Nat} {listed : Array Bool} {a : Act} {w : World} (hi : ops[i]? = some oi) (hc : (okH md ops listed i && waitsOn md ops L i) = true)
    (hQ : ∀ c a w, Q (.panic c) (a.put oi.dst v) w → Q (.panic c) a w) (h1 : Region.wanted oi (yielded ops a.tmps) = true) (h2 : ∀ w, S w → (execOp a.eval oi).run P w = .ok (.value v) w) (hS : S w)
    (h : wpAnyT P md ops Q S L fuel (listed.setIfInBounds i true) (a.put oi.dst v) w) : wpAnyT P md ops Q S L (fuel + 1) listed a w := by
  rw [Bool.and_eq_true] at hc
  exact wpAnyT_take hi (okH_iff hc.1).1 (okH_iff hc.1).2.1 (okH_iff hc.1).2.2 hc.2 hQ (Or.inl ⟨h1, h2⟩) hS h
end
end Go.Proofs.YtfapglhdakhbeaaGreatDoor
namespace Go.Proofs.YtfapglhdakhbeaaGreatDoor
open Go
section
variable {P : Program} {ops : Array Oper} {Q : Exit → Act → World → Prop} {md : Region.Mode} {S : World → Prop} {L : Nat}
theorem zH (i : Nat) {oi : Oper} {v : Value} {fuel : Nat} {listed : Array Bool} {a : Act} {w : World}
    (h : wpAnyH P md ops Q S fuel (listed.setIfInBounds i true) (a.put oi.dst v) w) (hi : ops[i]? = some oi := by exact opAt rfl) (hc : okH md ops listed i = true := by kernel_rfl)
    (hQ : ∀ c a w, Q (.panic c) (a.put oi.dst v) w → Q (.panic c) a w := by exact fun _ _ _ h => h) (h1 : Region.wanted oi (yielded ops a.tmps) = true := by rfl)
    (h2 : ∀ w, S w → (execOp a.eval oi).run P w = .ok (.value v) w := by intro w hSw; (try dsimp only at hSw); go_simp; try with_reducible rfl) (hS : S w := by assumption) : wpAnyH P md ops Q S (fuel + 1) listed a w :=
  takeH i hi hc hQ h1 h2 hS h
theorem sH (i : Nat) {oi : Oper} {fuel : Nat} {listed : Array Bool} {a : Act} {w : World}
    (h : wpAnyH P md ops Q S fuel (listed.setIfInBounds i true) (a.put oi.dst undef) w) (hi : ops[i]? = some oi := by exact opAt rfl) (hc : okH md ops listed i = true := by kernel_rfl)
    (hQ : ∀ c a w, Q (.panic c) (a.put oi.dst undef) w → Q (.panic c) a w := by exact fun _ _ _ h => h) (h1 : Region.wanted oi (yielded ops a.tmps) = false := by rfl)
    (hS : S w := by assumption) : wpAnyH P md ops Q S (fuel + 1) listed a w :=
  wpAnyH_take hi (okH_iff hc).1 (okH_iff hc).2.1 (okH_iff hc).2.2 hQ (Or.inr ⟨h1, rfl⟩) hS h
theorem zT (i : Nat) {oi : Oper} {v : Value} {fuel : Nat} {listed : Array Bool} {a : Act} {w : World}
    (h : wpAnyT P md ops Q S L fuel (listed.setIfInBounds i true) (a.put oi.dst v) w) (hi : ops[i]? = some oi := by exact opAt rfl) (hc : (okH md ops listed i && waitsOn md ops L i) = true := by kernel_rfl)
    (hQ : ∀ c a w, Q (.panic c) (a.put oi.dst v) w → Q (.panic c) a w := by exact fun _ _ _ h => h) (h1 : Region.wanted oi (yielded ops a.tmps) = true := by rfl)
    (h2 : ∀ w, S w → (execOp a.eval oi).run P w = .ok (.value v) w := by intro w hSw; (try dsimp only at hSw); go_simp; try with_reducible rfl) (hS : S w := by assumption) : wpAnyT P md ops Q S L (fuel + 1) listed a w :=
  takeT i hi hc hQ h1 h2 hS h
theorem oT (i : Nat) {o : Oper} {fuel : Nat} {listed : Array Bool} {a : Act} {w : World}
    (h : ∀ K' : Act → World → Prop, Shut (∀ a w, (i ≠ L → S w) → ((i ≠ L → S w) → wpAnyT P md ops Q S L fuel (listed.setIfInBounds i true) a w) → K' a w) → if Region.wanted o (yielded ops a.tmps) = true then Oper.wp P o a w K' Q else K' (a.put o.dst undef) w)
    (hr : Region.ready md ops listed = [i] := by kernel_rfl) (ho : ops[i]? = some o := by exact opAt rfl) : wpAnyT P md ops Q S L (fuel + 1) listed a w :=
  wpAnyT_one hr ho h
end
end Go.Proofs.YtfapglhdakhbeaaGreatDoor
