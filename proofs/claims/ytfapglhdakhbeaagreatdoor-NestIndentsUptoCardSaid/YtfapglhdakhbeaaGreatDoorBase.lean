/- Base words of this development: which blocks a call may turn (Upd), how values of Go types read as Lean data with a footprint (Rp), rows that a call owns and appends to. No program in sight. -/
import Derived.WalkKit
import Derived.Below
import Derived.OwnWalk
import Derived.Laws.AppendOwn
import Derived.Maps.AppendAt
import Derived.Lib.Hide
import Derived.Lib.Builder
import Derived.Lib.AppendStr
import Derived.KernelRfl
import Derived.Deep.Draws
import Derived.Deep.AppendLies
import Derived.Deep.QuietTactic
import Derived.BigQuiet
import Derived.Deep.LoopGhost
import Derived.LoopTactic
import Derived.Outline
import Derived.Deep.DeepCutAuto
import Derived.Deep.CutBlock
import Derived.Deep.DeepFit
import Derived.Deep.RegionHeld3
import Derived.Deep.RegionWith
namespace Go.Proofs.YtfapglhdakhbeaaGreatDoor
open Go.RowKit
set_option linter.unusedVariables false
set_option linter.unusedSimpArgs false

/-- A fact put aside from the walk. -/
structure As (p : Prop) : Prop where mk :: (out : p)

/-! ### Which blocks may turn -/
/-- From w to w' only blocks of S (and new ones) have turned. -/
structure Upd (S : Nat → Prop) (w w' : World) : Prop where
  os : w'.os = w.os
  tape : w'.tape = w.tape
  output : w'.output = w.output
  size : w.heap.size ≤ w'.heap.size
  block : ∀ k, k < w.heap.size → ¬ S k → w'.heap[k]? = w.heap[k]?

namespace Upd
theorem refl (S : Nat → Prop) (w : World) : Upd S w w := ⟨rfl, rfl, rfl, Nat.le_refl _, fun _ _ _ => rfl⟩
theorem trans {S S' : Nat → Prop} {w w1 w2 : World} (h : Upd S w w1) (h' : Upd S' w1 w2) (hs : ∀ k, k < w.heap.size → S' k → S k) : Upd S w w2 :=
  ⟨h'.os.trans h.os, h'.tape.trans h.tape, h'.output.trans h.output, Nat.le_trans h.size h'.size,
    fun k hk hn => (h'.block k (Nat.lt_of_lt_of_le hk h.size) (fun hs' => hn (hs k hk hs'))).trans (h.block k hk hn)⟩
theorem mono {S S' : Nat → Prop} {w w1 : World} (h : Upd S w w1) (hs : ∀ k, k < w.heap.size → S k → S' k) : Upd S' w w1 :=
  ⟨h.os, h.tape, h.output, h.size, fun k hk hn => h.block k hk (fun h' => hn (hs k hk h'))⟩
theorem drew {S : Nat → Prop} {a w : World} (h : Upd S a w) : Upd S a w.drew := ⟨h.os, h.tape, h.output, h.size, h.block⟩
theorem drewN {S : Nat → Prop} {a w : World} (h : Upd S a w) (n : Nat) : Upd S a (w.drewN n) := ⟨h.os, h.tape, h.output, h.size, h.block⟩
theorem alloc1 (S : Nat → Prop) (w : World) (o : Obj) : Upd S w (w.alloc o) := ⟨rfl, rfl, rfl, by simp, fun k hk _ => Below.heap_alloc w o k hk⟩
theorem alloc {S : Nat → Prop} {a w : World} (h : Upd S a w) (o : Obj) : Upd S a (w.alloc o) :=
  h.trans (alloc1 (fun _ => False) w o) (fun _ _ h => h.elim)
theorem setCell1 {S : Nat → Prop} (w : World) {p : Addr} (hp : S p.block) (u : Value) : Upd S w (w.setCell p u) :=
  ⟨rfl, rfl, rfl, by simp [World.setCell], fun k _ hn => Below.heap_setCell w p u k (fun e => hn (e ▸ hp))⟩
theorem setCell {S : Nat → Prop} {a w : World} (h : Upd S a w) {p : Addr} (hp : p.block < a.heap.size → S p.block) (u : Value) : Upd S a (w.setCell p u) :=
  h.trans (setCell1 (S := fun k => k = p.block) w rfl u) (fun k hk e => by subst e; exact hp hk)
theorem grown1 {S : Nat → Prop} {w w' : World} {row : Option Nat} (hg : w.grownBy w' row) (hr : ∀ k, row = some k → S k) : Upd S w w' :=
  ⟨hg.os, hg.tape, hg.output, hg.size, fun k hk hn => hg.block k hk (fun e => hn (hr k e.symm))⟩
theorem grown {S : Nat → Prop} {a w w' : World} {row : Option Nat} (h : Upd S a w) (hg : w.grownBy w' row) (hr : ∀ k, k < a.heap.size → row = some k → S k) : Upd S a w' :=
  h.trans (grown1 (S := fun k => row = some k) hg (fun _ e => e)) hr
theorem below {S : Nat → Prop} {B : Nat} {w w' : World} (h : Upd S w w') (hB : B ≤ w.heap.size) (hs : ∀ k, k < B → ¬ S k) : Below B w w' :=
  ⟨h.os, h.tape, h.output, h.size, fun k hk => h.block k (by omega) (hs k hk)⟩
theorem of_below {w w' : World} (h : Below w.heap.size w w') : Upd (fun _ => False) w w' := ⟨h.os, h.tape, h.output, h.size, fun k hk _ => h.block k hk⟩
theorem cell {S : Nat → Prop} {w w' : World} (h : Upd S w w') {b o : Nat} (hb : b < w.heap.size) (hn : ¬ S b) : w'.cell? ⟨b, o, none⟩ = w.cell? ⟨b, o, none⟩ := by
  simp [World.cell?, h.block b hb hn]
theorem frozen {S : Nat → Prop} {w w' : World} (h : Upd S w w') {b o : Nat} (hb : b < w.heap.size) (hn : ¬ S b) : w'.frozen? ⟨b, o, none⟩ = w.frozen? ⟨b, o, none⟩ := by
  simp [World.frozen?, h.block b hb hn]
/-- Old cells and marks, below a bound that S does not reach: two rules for the walk. -/
theorem olds {S : Nat → Prop} {w w' : World} (h : Upd S w w') (n : Nat) (hn : n ≤ w.heap.size) (hs : ∀ k, k < n → ¬ S k) :
    (∀ b o, b < n → w'.cell? ⟨b, o, none⟩ = w.cell? ⟨b, o, none⟩) ∧ (∀ b o, b < n → w'.frozen? ⟨b, o, none⟩ = w.frozen? ⟨b, o, none⟩) :=
  ⟨fun b o hb => h.cell (by omega) (hs b hb), fun b o hb => h.frozen (by omega) (hs b hb)⟩
end Upd

/-- Nothing old has turned. -/
abbrev Pure (w w' : World) : Prop := Upd (fun _ => False) w w'
theorem Pure.below {w w' : World} (h : Pure w w') : Below w.heap.size w w' := Upd.below h (Nat.le_refl _) (fun _ _ h => h)
theorem Pure.olds {w w' : World} (h : Pure w w') : (∀ b o, b < w.heap.size → w'.cell? ⟨b, o, none⟩ = w.cell? ⟨b, o, none⟩) ∧ (∀ b o, b < w.heap.size → w'.frozen? ⟨b, o, none⟩ = w.frozen? ⟨b, o, none⟩) :=
  Upd.olds h _ (Nat.le_refl _) (fun _ _ h => h)


section
variable {P : Program} (w : World)
/-- Appending a string's bytes to a row of the call's own: what it leaves, and in which block. -/
theorem run_append_str_at (t u ty e : TypeId) (i : TypeInfo) (ht : P.underlying t = some (.slice e)) (hu : P.underlying u = some .string) (hi : P.info? e = some i) (hz : i.zero = some (.int .u8 0))
    (hsize : i.size = 1) (hby : i.bytes = 1)
    (v : Value) (n : Nat) (xs : List Value) (hown : w.ownsRow 0 e 1 v n xs) (s : ByteArray)
    (h63 : n + s.size ≤ maxLen) (hbytes : n + s.size ≤ 140737488355328) :
    ∃ v' w', (Builtin.append_ #[t, u] ty #[v, .string s]).run P w = .ok v' w' ∧ w'.ownsRow 0 e 1 v' (n + s.size) (xs ++ Lib.strCells s) ∧ w.grownBy w' v.ownBlock ∧
      (v'.ownBlock = v.ownBlock ∨ v'.ownBlock = some w.heap.size) := by
  have hsmall : n + s.size ≤ 9223372036854775807 := by simp only [maxLen] at h63; omega
  have hxl : xs.length = n := by simpa using hown.1
  have hlen : (xs ++ Lib.strCells s).length = (n + s.size) * 1 := by rw [List.length_append, hxl, Lib.strCells_length, Nat.mul_one]
  have grown : ∀ (old : Nat), old < n + s.size → ∀ (row : Option Nat),
      (w.drew.alloc (.cells (xs.toArray ++ (Lib.strCells s).toArray ++ Builtin.zeroCells (Value.int .u8 0).cells (grownCap w (n + s.size) old e - (n + s.size))) e)).ownsRow 0 e 1
        (.slice (some ⟨w.heap.size, 0, none⟩) (n + s.size) (grownCap w (n + s.size) old e)) (n + s.size) (xs ++ Lib.strCells s) ∧
      w.grownBy (w.drew.alloc (.cells (xs.toArray ++ (Lib.strCells s).toArray ++ Builtin.zeroCells (Value.int .u8 0).cells (grownCap w (n + s.size) old e - (n + s.size))) e)) row := by
    intro old ho row
    have hge := grownCap_ge w (n + s.size) old e
    have hcm : grownCap w (n + s.size) old e ≤ maxLen := grownCap_le_maxLen w (n + s.size) old e h63
    refine ⟨⟨hlen, .inr ⟨w.heap.size, _, _, rfl, Nat.zero_le _, heap_alloc_new w.drew _, hge, hcm, ?_, ?_⟩⟩, ⟨rfl, rfl, rfl, by simp, fun k hk _ => Below.heap_alloc w.drew _ k hk⟩⟩
    · have hz1 : (Value.int IntKind.u8 0).cells.size = 1 := rfl
      simp only [Array.size_append, List.size_toArray, size_zeroCells, hz1, hxl, Lib.strCells_length]
      omega
    · simp only [Array.toList_append, List.append_assoc]
      rw [← List.append_assoc, ← hlen]
      exact List.take_left
  rcases hown.2 with ⟨rfl, rfl⟩ | ⟨g, cap, cur, rfl, hbg, hg, hnc, hcm, hcs, htake⟩
  · have hx : xs = [] := List.eq_nil_of_length_eq_zero hxl
    subst hx
    by_cases hm : s.size = 0
    · have hn : Lib.strCells s = [] := List.eq_nil_of_length_eq_zero (by rw [Lib.strCells_length]; exact hm)
      refine ⟨.slice none 0 0, w, ?_, by rw [hm, hn]; exact World.ownsRow_nil w 0 e 1, ⟨rfl, rfl, rfl, Nat.le_refl _, fun _ _ _ => rfl⟩, .inl rfl⟩
      have hf := Lib.run_firstCells_string (P := P) w 1 s
      rw [hm] at hf
      simp [Builtin.append_, run_underlying ht, run_underlying hu, sizeOf, typeInfo, hi, hsize, Builtin.lenOf, hm, hf]
    · have hr := run_append_nil_string (P := P) w t u ty e i (.int .u8 0) ht hu hi hz s (by omega) (by omega) (by rw [hby]; omega)
      have hgr := grown 0 (by omega) (Value.ownBlock (.slice none 0 0))
      simp only [Nat.zero_add, List.nil_append, Array.empty_append] at hgr ⊢
      have e1 : (s.data.map fun b => Value.int .u8 b.toNat) = (Lib.strCells s).toArray := by
        apply Array.ext'
        simp [Lib.strCells]
      rw [e1] at hr
      exact ⟨_, _, hr, hgr.1, hgr.2, .inr rfl⟩
  · by_cases hroom : n + s.size ≤ cap
    · have hcs' : cur.size = cap := by simpa using hcs
      have hr := Lib.run_append_room_string (P := P) w t u ty e i ht hu hi hsize g n cap cur hg s hroom (by omega)
      refine ⟨_, _, hr, ⟨hlen, .inr ⟨g, cap, _, rfl, hbg, setRow_heap w g cur _ e _ hg, hroom, hcm, ?_, ?_⟩⟩, ⟨rfl, rfl, rfl, by simp, fun k _ hk => setRow_other w g k _ (fun e => hk (by simp [Value.ownBlock, e]))⟩, .inl rfl⟩
      · simp only [List.size_toArray, List.length_append, List.length_take, List.length_drop, Array.length_toList, Lib.strCells_length]
        omega
      · have ht' : cur.toList.take n = xs := by simpa using htake
        rw [ht', ← hlen]
        exact List.take_left
    · have holds : ∀ j u, xs[j]? = some u → w.cell? ((⟨g, 0, none⟩ : Addr).add j) = some u := hown.cells (g := g) rfl
      have hr := Lib.run_append_grow_string (P := P) w t u ty e i (.int .u8 0) ht hu hi hz ⟨g, 0, none⟩ n cap xs (by rw [hsize]; simpa using hxl) holds s (by omega) (by omega) (by rw [hby]; exact growslice_fits (by omega) (by omega))
      have hgr := grown cap (by omega) (Value.ownBlock (.slice (some ⟨g, 0, none⟩) n cap))
      exact ⟨_, _, hr, hgr.1, hgr.2, .inr rfl⟩

theorem wpList_append_str_at {ops : Array Oper} {rest : List Oper} {o : Oper} {a : Act} {Q : Exit → Act → World → Prop} (hgd : o.guard = none) (sl x : Operand) (t u : TypeId)
    (ho : o.op = .call { callee := .builtin .append, args := #[sl, x], argTypes := #[t, u] })
    (e : TypeId) (i : TypeInfo) (ht : P.underlying t = some (.slice e)) (hu : P.underlying u = some .string) (hi : P.info? e = some i) (hz : i.zero = some (.int .u8 0))
    (hsize : i.size = 1) (hby : i.bytes = 1)
    (v : Value) (n : Nat) (xs : List Value) (hs : a.eval sl = v) (hown : w.ownsRow 0 e 1 v n xs) (s : ByteArray) (hx : a.eval x = .string s)
    (h63 : n + s.size ≤ maxLen) (hbytes : n + s.size ≤ 140737488355328)
    (h : ∀ v' w', w'.ownsRow 0 e 1 v' (n + s.size) (xs ++ Lib.strCells s) → w.grownBy w' v.ownBlock → (v'.ownBlock = v.ownBlock ∨ v'.ownBlock = some w.heap.size) → wpList P ops Q rest (a.put o.dst v') w') : wpList P ops Q (o :: rest) a w := by
  refine wpList_plain hgd fun K hK => ?_
  obtain ⟨v', w', hr, h2, h3, h4⟩ := run_append_str_at (P := P) w t u o.type e i ht hu hi hz hsize hby v n xs hown s h63 hbytes
  unfold Oper.wp execOp
  simp only [ho, resolve, invoke, builtin, Sem.run_bind, Sem.run_pure, Result.andThen_ok, List.map_toArray, List.map_cons, List.map_nil, hs, hx, hr]
  exact hK _ _ (h v' w' h2 h3 h4)
end

/-- One step of the walk through a drawn region: nothing old has turned. -/
structure Stp (w w1 : World) : Prop where mk :: (out : Pure w w1)

/-! ### Values of Go types as Lean data -/
/-- sz cells; what they say (in a world, with a footprint F: the blocks below the heap's end that are looked into). -/
structure Rp (α : Type) where
  sz : Nat
  rep : World → (Nat → Prop) → α → List Value → Prop
  len : ∀ {w F x cs}, rep w F x cs → cs.length = sz
  one : ∀ {w F x cs}, rep w F x cs → ∀ u ∈ cs, u.oneCell' = true
  move : ∀ {w w1 : World} {F G : Nat → Prop} {x cs}, (∀ k, F k → k < w.heap.size → G k ∧ k < w1.heap.size ∧ w1.heap[k]? = w.heap[k]?) → rep w F x cs → rep w1 G x cs

/-- A row of cells: element after element. -/
def Reps {α : Type} (R : α → List Value → Prop) (size : Nat) (xs : List α) (cs : List Value) : Prop :=
  cs.length = xs.length * size ∧ ∀ j x, xs[j]? = some x → R x ((cs.drop (j * size)).take size)

theorem Reps.imp {α : Type} {R R' : α → List Value → Prop} {size : Nat} {xs : List α} {cs : List Value} (h : Reps R size xs cs) (hi : ∀ x c, R x c → R' x c) : Reps R' size xs cs :=
  ⟨h.1, fun j x hx => hi _ _ (h.2 j x hx)⟩
theorem Reps.nil {α : Type} (R : α → List Value → Prop) (size : Nat) : Reps R size ([] : List α) [] := ⟨by simp, by simp⟩
theorem Reps.append {α : Type} {R : α → List Value → Prop} {size : Nat} {xs ys : List α} {cs ds : List Value} (h : Reps R size xs cs) (h' : Reps R size ys ds) : Reps R size (xs ++ ys) (cs ++ ds) := by
  refine ⟨by rw [List.length_append, List.length_append, h.1, h'.1, Nat.add_mul], fun j x hx => ?_⟩
  rcases Nat.lt_or_ge j xs.length with hj | hj
  · rw [List.getElem?_append_left hj] at hx
    have hle : (j + 1) * size ≤ xs.length * size := Nat.mul_le_mul_right _ hj
    have h2 : j * size + size ≤ cs.length := by rw [h.1]; rw [Nat.add_mul] at hle; omega
    rw [List.drop_append_of_le_length (by omega), List.take_append_of_le_length (by rw [List.length_drop]; omega)]
    exact h.2 j x hx
  · rw [List.getElem?_append_right hj] at hx
    have hle : xs.length * size ≤ j * size := Nat.mul_le_mul_right _ hj
    have e : j * size - cs.length = (j - xs.length) * size := by rw [h.1, Nat.sub_mul]
    rw [List.drop_append, List.drop_eq_nil_of_le (by rw [h.1]; exact hle), List.nil_append, e]
    exact h'.2 _ x hx
theorem Reps.single {α : Type} {R : α → List Value → Prop} {size : Nat} {x : α} {cs : List Value} (h : R x cs) (hl : cs.length = size) : Reps R size [x] cs := by
  refine ⟨by simp [hl], fun j y hy => ?_⟩
  match j, hy with
  | 0, hy =>
    simp at hy
    subst hy
    rw [Nat.zero_mul, List.drop_zero, ← hl, List.take_length]
    exact h
  | j + 1, hy => simp at hy

namespace Rp
variable {α β : Type}

/-- A row that is read: its first element lies at A. -/
def row (d : Rp α) (w : World) (F : Nat → Prop) (A : Option Addr) (xs : List α) : Prop :=
  xs = [] ∨ ∃ b o, A = some ⟨b, o, none⟩ ∧ F b ∧ b < w.heap.size ∧ ∀ j x, xs[j]? = some x → ∃ cs, d.rep w F x cs ∧ ∀ i u, cs[i]? = some u → w.cell? ⟨b, o + j * d.sz + i, none⟩ = some u

theorem row_move {d : Rp α} {w w1 : World} {F G : Nat → Prop} {A : Option Addr} {xs : List α} (hm : ∀ k, F k → k < w.heap.size → G k ∧ k < w1.heap.size ∧ w1.heap[k]? = w.heap[k]?) (h : d.row w F A xs) : d.row w1 G A xs := by
  rcases h with h | ⟨b, o, hA, hF, hb, hc⟩
  · exact .inl h
  · obtain ⟨hG, hb1, he⟩ := hm b hF hb
    refine .inr ⟨b, o, hA, hG, hb1, fun j x hx => ?_⟩
    obtain ⟨cs, hr, hcs⟩ := hc j x hx
    refine ⟨cs, d.move hm hr, fun i u hu => ?_⟩
    rw [← hcs i u hu]
    simp [World.cell?, he]

/-- A slice in one cell. -/
def slice (d : Rp α) : Rp (List α) where
  sz := 1
  rep := fun w F xs cs => ∃ A c, cs = [.slice A xs.length c] ∧ xs.length ≤ c ∧ d.row w F A xs
  len := by
    rintro w F x cs ⟨A, c, rfl, _⟩
    rfl
  one := by
    rintro w F x cs ⟨A, c, rfl, _⟩ u hu
    rw [List.mem_singleton.1 hu]
    rfl
  move := by
    rintro w w1 F G x cs hm ⟨A, c, rfl, hl, hr⟩
    exact ⟨A, c, rfl, hl, row_move hm hr⟩

def scalar (enc : α → Value) (h1 : ∀ x, (enc x).oneCell' = true) : Rp α where
  sz := 1
  rep := fun _ _ x cs => cs = [enc x]
  len := fun h => by rw [h]; rfl
  one := fun h u hu => by
    rw [h] at hu
    rw [List.mem_singleton.1 hu]
    exact h1 _
  move := fun _ h => h
def int (k : IntKind) : Rp Int := scalar (Value.int k) (fun _ => rfl)
def bool : Rp Bool := scalar Value.bool (fun _ => rfl)
def string : Rp ByteArray := scalar Value.string (fun _ => rfl)

def pair (a : Rp α) (b : Rp β) : Rp (α × β) where
  sz := a.sz + b.sz
  rep := fun w F x cs => ∃ c0 c1, cs = c0 ++ c1 ∧ a.rep w F x.1 c0 ∧ b.rep w F x.2 c1
  len := by
    rintro w F x cs ⟨c0, c1, rfl, h0, h1⟩
    rw [List.length_append, a.len h0, b.len h1]
  one := by
    rintro w F x cs ⟨c0, c1, rfl, h0, h1⟩ u hu
    rcases List.mem_append.1 hu with hu | hu
    · exact a.one h0 u hu
    · exact b.one h1 u hu
  move := by
    rintro w w1 F G x cs hm ⟨c0, c1, rfl, h0, h1⟩
    exact ⟨c0, c1, rfl, a.move hm h0, b.move hm h1⟩
def iso (d : Rp α) (f : β → α) : Rp β where
  sz := d.sz
  rep := fun w F x cs => d.rep w F (f x) cs
  len := d.len
  one := d.one
  move := d.move

theorem row_nil (d : Rp α) (w : World) (F : Nat → Prop) (A : Option Addr) : d.row w F A [] := .inl rfl

/-- An element of a row that is read. -/
theorem row_at {d : Rp α} {w : World} {F : Nat → Prop} {A : Option Addr} {xs : List α} (h : d.row w F A xs) {j : Nat} {x : α} (hx : xs[j]? = some x) :
    ∃ b o cs, A = some ⟨b, o, none⟩ ∧ F b ∧ b < w.heap.size ∧ d.rep w F x cs ∧ ∀ i u, cs[i]? = some u → w.cell? ⟨b, o + j * d.sz + i, none⟩ = some u := by
  rcases h with rfl | ⟨b, o, hA, hF, hb, hc⟩
  · simp at hx
  · obtain ⟨cs, hr, hcs⟩ := hc j x hx
    exact ⟨b, o, cs, hA, hF, hb, hr, hcs⟩

/-- A block whose cells are known, as a row. -/
theorem row_of_block {d : Rp α} {w : World} {F : Nat → Prop} {b : Nat} {cs : Array Value} {e : TypeId} {fr : Nat × Nat} {xs : List α} (hb : w.heap[b]? = some (.cells cs e fr)) (hF : F b) (h : Reps (d.rep w F) d.sz xs cs.toList) : d.row w F (some ⟨b, 0, none⟩) xs := by
  refine .inr ⟨b, 0, rfl, hF, (Array.getElem?_eq_some_iff.1 hb).1, fun j x hx => ⟨_, h.2 j x hx, fun i u hu => ?_⟩⟩
  rw [List.getElem?_take] at hu
  split at hu
  · rw [List.getElem?_drop] at hu
    simp [World.cell?, hb]
    simpa using hu
  · cases hu

/-- A row of the call's own (elements of type e): a block of its own, or nil. -/
def own (d : Rp α) (e : Nat) (w : World) (F : Nat → Prop) (v : Value) (xs : List α) : Prop :=
  ∃ inner, w.ownsRow 0 e d.sz v xs.length inner ∧ (∀ k, v.ownBlock = some k → F k) ∧ Reps (d.rep w (fun k => F k ∧ some k ≠ v.ownBlock)) d.sz xs inner

theorem own_nil (d : Rp α) (e : Nat) (w : World) (F : Nat → Prop) : d.own e w F (.slice none 0 0) [] :=
  ⟨[], World.ownsRow_nil _ _ _ _, fun k hk => by simp [Value.ownBlock] at hk, Reps.nil _ _⟩

theorem own_move {d : Rp α} {e : Nat} {w w1 : World} {F G : Nat → Prop} {v : Value} {xs : List α} (hm : ∀ k, F k → k < w.heap.size → G k ∧ k < w1.heap.size ∧ w1.heap[k]? = w.heap[k]?) (h : d.own e w F v xs) : d.own e w1 G v xs := by
  obtain ⟨inner, ho, hF, hr⟩ := h
  refine ⟨inner, ⟨ho.1, ?_⟩, fun k hk => (hm k (hF k hk) (ho.lt k hk).2).1, hr.imp fun x c hc => d.move (fun k hk hk' => ?_) hc⟩
  · rcases ho.2 with hn | ⟨g, cap, cur, rfl, hb, hg, rest⟩
    · exact .inl hn
    · refine .inr ⟨g, cap, cur, rfl, hb, ?_, rest⟩
      rw [(hm g (hF g (by simp [Value.ownBlock])) (Array.getElem?_eq_some_iff.1 hg).1).2.2]
      exact hg
  · obtain ⟨h1, h2, h3⟩ := hm k hk.1 hk'
    exact ⟨⟨h1, hk.2⟩, h2, h3⟩

theorem own_upd {d : Rp α} {e : Nat} {w w1 : World} {F S : Nat → Prop} {v : Value} {xs : List α} (h : d.own e w F v xs) (hu : Upd S w w1) (hs : ∀ k, k < w.heap.size → F k → ¬ S k) : d.own e w1 F v xs :=
  own_move (fun k hk hl => ⟨hk, Nat.lt_of_lt_of_le hl hu.size, hu.block k hl (hs k hl hk)⟩) h
theorem own_alloc {d : Rp α} {e : Nat} {w : World} {F : Nat → Prop} {v : Value} {xs : List α} (h : d.own e w F v xs) (o : Obj) : d.own e (w.alloc o) F v xs :=
  own_upd h (Upd.alloc1 (fun _ => False) w o) (fun _ _ _ h => h)
theorem own_drew {d : Rp α} {e : Nat} {w : World} {F : Nat → Prop} {v : Value} {xs : List α} (h : d.own e w F v xs) : d.own e w.drew F v xs :=
  own_upd h ((Upd.refl (fun _ => False) w).drew) (fun _ _ _ h => h)
theorem row_upd {d : Rp α} {w w1 : World} {F S : Nat → Prop} {A : Option Addr} {xs : List α} (h : d.row w F A xs) (hu : Upd S w w1) (hs : ∀ k, k < w.heap.size → F k → ¬ S k) : d.row w1 F A xs :=
  row_move (fun k hk hl => ⟨hk, Nat.lt_of_lt_of_le hl hu.size, hu.block k hl (hs k hl hk)⟩) h
theorem row_pure {d : Rp α} {w w1 : World} {F : Nat → Prop} {A : Option Addr} {xs : List α} (h : d.row w F A xs) (hu : Pure w w1) : d.row w1 F A xs :=
  row_upd h hu (fun _ _ _ h => h)
theorem row_fp {d : Rp α} {w : World} {F G : Nat → Prop} {A : Option Addr} {xs : List α} (h : d.row w F A xs) (hG : ∀ k, F k → G k) : d.row w G A xs :=
  row_move (fun k hk hl => ⟨hG k hk, hl, rfl⟩) h
theorem own_fp {d : Rp α} {e : Nat} {w : World} {F G : Nat → Prop} {v : Value} {xs : List α} (h : d.own e w F v xs) (hG : ∀ k, F k → G k) : d.own e w G v xs :=
  own_move (fun k hk hl => ⟨hG k hk, hl, rfl⟩) h

theorem own_slice {d : Rp α} {e : Nat} {w : World} {F : Nat → Prop} {v : Value} {xs : List α} (h : d.own e w F v xs) : ∃ A c, v = .slice A xs.length c ∧ xs.length ≤ c ∧ d.row w F A xs := by
  obtain ⟨inner, ho, hF, hr⟩ := h
  rcases ho.2 with ⟨rfl, h0⟩ | ⟨g, cap, cur, rfl, _, hg, hle, _, hcs, htake⟩
  · have : xs = [] := List.eq_nil_of_length_eq_zero h0
    subst this
    exact ⟨none, 0, rfl, Nat.le_refl _, .inl rfl⟩
  · refine ⟨_, cap, rfl, hle, .inr ⟨g, 0, rfl, hF g (by simp [Value.ownBlock]), (Array.getElem?_eq_some_iff.1 hg).1, fun j x hx => ⟨_, d.move (fun k hk hk' => ⟨hk.1, hk', rfl⟩) (hr.2 j x hx), fun i u hu => ?_⟩⟩⟩
    rw [List.getElem?_take] at hu
    split at hu
    · rw [List.getElem?_drop] at hu
      rw [← htake, List.getElem?_take] at hu
      split at hu
      · simp [World.cell?, hg]
        simpa using hu
      · cases hu
    · cases hu

theorem own_block_lt {d : Rp α} {e : Nat} {w : World} {F : Nat → Prop} {v : Value} {xs : List α} (h : d.own e w F v xs) : ∀ k, v.ownBlock = some k → F k ∧ k < w.heap.size := by
  obtain ⟨inner, ho, hF, _⟩ := h
  exact fun k hk => ⟨hF k hk, (ho.lt k hk).2⟩

/-- What an append leaves. The new elements' blocks (Fp) are no block of the row's own; new blocks are in G. -/
theorem own_appended {d : Rp α} {e : Nat} {w w1 : World} {F Fp G : Nat → Prop} {v v1 : Value} {xs ys : List α} {news inner : List Value}
    (h0 : ∀ k, v.ownBlock = some k → F k) (hr : Reps (d.rep w (fun k => F k ∧ some k ≠ v.ownBlock)) d.sz xs inner)
    (hy : Reps (d.rep w Fp) d.sz ys news) (hFp : ∀ k, Fp k → k < w.heap.size → G k ∧ some k ≠ v.ownBlock) (hFG : ∀ k, F k → k < w.heap.size → G k) (hnew : ∀ k, w.heap.size ≤ k → G k)
    (hown : w1.ownsRow 0 e d.sz v1 (xs.length + ys.length) (inner ++ news)) (hg : w.grownBy w1 v.ownBlock) (hlt : ∀ k, v.ownBlock = some k → k < w.heap.size)
    (hat : v1.ownBlock = v.ownBlock ∨ ∃ b, v1.ownBlock = some b ∧ w.heap.size ≤ b) : d.own e w1 G v1 (xs ++ ys) := by
  have hne : ∀ k, some k ≠ v.ownBlock → k < w.heap.size → some k ≠ v1.ownBlock := by
    intro k hk hl
    rcases hat with hat | ⟨b, hb, hle⟩
    · rw [hat]; exact hk
    · rw [hb]
      intro he
      injection he with he
      omega
  refine ⟨inner ++ news, by rw [List.length_append]; exact hown, fun k hk => ?_, Reps.append (hr.imp fun x c hc => d.move (fun k hk hl => ?_) hc) (hy.imp fun x c hc => d.move (fun k hk hl => ?_) hc)⟩
  · rcases hat with hat | ⟨b, hb, hle⟩
    · rw [hat] at hk
      exact hFG k (h0 k hk) (hlt k hk)
    · rw [hb] at hk
      injection hk with hk
      exact hnew k (by omega)
  · exact ⟨⟨hFG k hk.1 hl, hne k hk.2 hl⟩, Nat.lt_of_lt_of_le hl hg.size, hg.block k hl hk.2⟩
  · obtain ⟨h1, h2⟩ := hFp k hk hl
    exact ⟨⟨h1, hne k h2 hl⟩, Nat.lt_of_lt_of_le hl hg.size, hg.block k hl h2⟩

theorem own_base {w : World} {base e size n : Nat} {v : Value} {xs : List Value} (h : w.ownsRow base e size v n xs) : w.ownsRow 0 e size v n xs := by
  obtain ⟨h1, h2⟩ := h
  refine ⟨h1, ?_⟩
  rcases h2 with h2 | ⟨g, cap, cur, hv, hg, r⟩
  · exact .inl h2
  · exact .inr ⟨g, cap, cur, hv, Nat.zero_le _, r⟩

section
variable {P : Program} {ops : Array Oper} {rest : List Oper} {o : Oper} {a : Act} {Q : Exit → Act → World → Prop}
/-- append(v, x) of one element, behind 'at_builtin': the goal's world is W with the variadic box of x's cells. -/
theorem own_append (d : Rp α) {e : Nat} {W : World} {F Fp G : Nat → Prop} {v : Value} {xs : List α} (HO : d.own e W F v xs) (p : α) (cs : List Value) (hp : d.rep W Fp p cs)
    (hFp : ∀ k, Fp k → k < W.heap.size → G k ∧ some k ≠ v.ownBlock) (hFG : ∀ k, F k → k < W.heap.size → G k) (hnew : ∀ k, W.heap.size ≤ k → G k)
    (hgd : o.guard = none) (s x : Operand) (t : TypeId) (z : Value) (bytes : Nat)
    (ho : o.op = .call { callee := .builtin .append, args := #[s, x], argTypes := #[t, t] })
    (ht : P.underlying t = some (.slice e)) (hinfo : (P.info? e).map (fun i => (i.zero, i.size, i.bytes)) = some (some z, d.sz, bytes)) (hz : z.cells.size = d.sz) (hs0 : 0 < d.sz) (hb0 : 0 < bytes)
    (hs : a.eval s = v) (hx : a.eval x = .slice (some ⟨W.heap.size, 0, none⟩) 1 1) (hl : (xs.length + 1) * bytes ≤ 140737488355328)
    (h : ∀ v1 w1, d.own e w1 G v1 (xs ++ [p]) → Upd (fun k => v.ownBlock = some k) W w1 → wpList P ops Q rest (a.put o.dst v1) w1) :
    wpList P ops Q (o :: rest) a (W.alloc (.cells cs.toArray e)) := by
  obtain ⟨inner, hown, hF, hr⟩ := HO
  obtain ⟨i0, hi, hzz⟩ := Option.map_eq_some_iff.1 hinfo
  simp only [Prod.mk.injEq] at hzz
  obtain ⟨hz0, hz1, hz2⟩ := hzz
  have hlen : xs.length + 1 ≤ 140737488355328 := Nat.le_trans (Nat.le_mul_of_pos_right _ hb0) hl
  refine wpList_append_own_at (W.alloc (.cells cs.toArray e)) hgd s x t ho 0 e i0 z d.sz bytes ht hi hz0 hz1 hz2 hz hs0 v xs.length inner hs (hown.alloc _) ⟨W.heap.size, 0, none⟩ 1 1 cs hx (by rw [d.len hp]; simp)
    (by simpa using World.news_of_block (cs := cs.toArray) (t := e) (fr := (0, 0)) (heap_alloc_new W (.cells cs.toArray e))) (d.one hp) (by simp only [maxLen]; omega) hl (by simp) ?_
  intro v1 w1 hown1 hg1 _ hat
  have hg : W.grownBy w1 v.ownBlock := World.grownBy.trans (World.grownBy_alloc W _ _) hg1
  refine h v1 w1 (own_appended (Fp := Fp) hF hr (Reps.single hp (d.len hp)) hFp hFG hnew (by simpa using hown1) hg (fun k hk => (hown.lt k hk).2) ?_) (Upd.grown1 hg (fun k hk => hk))
  rcases hat with hat | hat
  · exact .inl hat
  · exact .inr ⟨_, hat, by simp⟩
end
end Rp
end Go.Proofs.YtfapglhdakhbeaaGreatDoor
