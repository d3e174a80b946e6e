/- My own texts, packed: Base, FlatC, HeldZ, Expr, Reg, Names, Pars5, Sl. -/
import Derived.WalkKit
import Derived.Below
import Derived.OwnWalk
import Derived.Laws.AppendOwn
import Derived.Maps.AppendAt
import Derived.Lib.Hide
import Derived.Lib.Builder
import Derived.Lib.AppendStr
import Derived.KernelRfl
import Derived.Deep.Draws
import Derived.Deep.AppendLies
import Derived.Deep.QuietTactic
import Derived.BigQuiet
import Derived.Deep.LoopGhost
import Derived.LoopTactic
import Derived.Outline
import Derived.Deep.DeepCutAuto
import Derived.Deep.CutBlock
import Derived.Deep.DeepFit
import Derived.Deep.RegionHeld3
import Derived.Deep.RegionWith
import Derived.Test.YtofjodppljnlaaaGreatDoorProg
import Derived.Laws.Shifts
import Derived.Laws.BitsAll
import Derived.OrdersHeld
import Derived.Deep.RegionHeld
import Derived.Laws.IdiomStrings
import Derived.Maps.RangeWalk
import Derived.Maps.OwnSet
import Derived.Maps.OwnOps
import Derived.ChangeKeys
import Derived.WalkSpells
import Derived.Lib.SliceRun
import Derived.Deep.WholeRow
import Derived.Great.Walk
import Derived.Lib.RuneBytes
import Derived.Laws.ShiftsVar
import Derived.Laws.BitsLemmas
import Derived.Laws.CopyOwn
import Derived.Laws.OwnMore
import Derived.LaidEql
import Derived.Stop.Asserts
import Derived.Laws.StructEq
import Derived.Test.YtofjodppljnlaaaGreatDoorRows
import Derived.ProofKit
import Derived.OpenShut
import Derived.ShutString
import Derived.ChangeOld
import Derived.ChangeArms
import Derived.JoinedCond
import Derived.Deep.Slices
import Derived.Deep.Fields
import Derived.ChangeSame
import Derived.Carry
import Derived.Test.YtofjodppljnlaaaGreatDoorCards
import Derived.Test.YtofjodppljnlaaaGreatDoorTie
import Derived.Deep.DeepHandedRow
import Derived.Lib.LaidTab
import Derived.LaidHandle
import Derived.LaidLaws
import Derived.SevenTiedAt
namespace Go.Proofs.YtofjodppljnlaaaGreatDoor
theorem sA {α : Type} (l : List α) (i : Nat) (a : α) : l.toArray.setIfInBounds i a = (l.set i a).toArray := List.setIfInBounds_toArray l i a
theorem sB {α : Type} (a b : α) (l : List α) : (a :: l).set 0 b = b :: l := rfl
theorem sC {α : Type} (a b : α) (l : List α) (n : Nat) : (a :: l).set (n + 1) b = a :: l.set n b := rfl
open Go.RowKit
set_option linter.unusedVariables false
set_option linter.unusedSimpArgs false
/-- A fact put aside from the walk. -/
structure As (p : Prop) : Prop where mk :: (out : p)
/-- From w to w' only blocks of S (and new ones) have turned. -/
structure Upd (S : Nat → Prop) (w w' : World) : Prop where
  os : w'.os = w.os
  tape : w'.tape = w.tape
  output : w'.output = w.output
  size : w.heap.size ≤ w'.heap.size
  block : ∀ k, k < w.heap.size → ¬ S k → w'.heap[k]? = w.heap[k]?
namespace Upd
theorem refl (S : Nat → Prop) (w : World) : Upd S w w := ⟨rfl, rfl, rfl, Nat.le_refl _, fun _ _ _ => rfl⟩
theorem trans {S S' : Nat → Prop} {w w1 w2 : World} (h : Upd S w w1) (h' : Upd S' w1 w2) (hs : ∀ k, k < w.heap.size → S' k → S k) : Upd S w w2 :=
  ⟨h'.os.trans h.os, h'.tape.trans h.tape, h'.output.trans h.output, Nat.le_trans h.size h'.size,
    fun k hk hn => (h'.block k (Nat.lt_of_lt_of_le hk h.size) (fun hs' => hn (hs k hk hs'))).trans (h.block k hk hn)⟩
theorem mono {S S' : Nat → Prop} {w w1 : World} (h : Upd S w w1) (hs : ∀ k, k < w.heap.size → S k → S' k) : Upd S' w w1 :=
  ⟨h.os, h.tape, h.output, h.size, fun k hk hn => h.block k hk (fun h' => hn (hs k hk h'))⟩
theorem drew {S : Nat → Prop} {a w : World} (h : Upd S a w) : Upd S a w.drew := ⟨h.os, h.tape, h.output, h.size, h.block⟩
theorem drewN {S : Nat → Prop} {a w : World} (h : Upd S a w) (n : Nat) : Upd S a (w.drewN n) := ⟨h.os, h.tape, h.output, h.size, h.block⟩
theorem alloc1 (S : Nat → Prop) (w : World) (o : Obj) : Upd S w (w.alloc o) := ⟨rfl, rfl, rfl, by simp, fun k hk _ => Below.heap_alloc w o k hk⟩
theorem alloc {S : Nat → Prop} {a w : World} (h : Upd S a w) (o : Obj) : Upd S a (w.alloc o) :=
  h.trans (alloc1 (fun _ => False) w o) (fun _ _ h => h.elim)
theorem setCell1 {S : Nat → Prop} (w : World) {p : Addr} (hp : S p.block) (u : Value) : Upd S w (w.setCell p u) :=
  ⟨rfl, rfl, rfl, by simp [World.setCell], fun k _ hn => Below.heap_setCell w p u k (fun e => hn (e ▸ hp))⟩
theorem setCell {S : Nat → Prop} {a w : World} (h : Upd S a w) {p : Addr} (hp : p.block < a.heap.size → S p.block) (u : Value) : Upd S a (w.setCell p u) :=
  h.trans (setCell1 (S := fun k => k = p.block) w rfl u) (fun k hk e => by subst e; exact hp hk)
theorem grown1 {S : Nat → Prop} {w w' : World} {row : Option Nat} (hg : w.grownBy w' row) (hr : ∀ k, row = some k → S k) : Upd S w w' :=
  ⟨hg.os, hg.tape, hg.output, hg.size, fun k hk hn => hg.block k hk (fun e => hn (hr k e.symm))⟩
theorem grown {S : Nat → Prop} {a w w' : World} {row : Option Nat} (h : Upd S a w) (hg : w.grownBy w' row) (hr : ∀ k, k < a.heap.size → row = some k → S k) : Upd S a w' :=
  h.trans (grown1 (S := fun k => row = some k) hg (fun _ e => e)) hr
theorem below {S : Nat → Prop} {B : Nat} {w w' : World} (h : Upd S w w') (hB : B ≤ w.heap.size) (hs : ∀ k, k < B → ¬ S k) : Below B w w' :=
  ⟨h.os, h.tape, h.output, h.size, fun k hk => h.block k (by omega) (hs k hk)⟩
theorem cell {S : Nat → Prop} {w w' : World} (h : Upd S w w') {b o : Nat} (hb : b < w.heap.size) (hn : ¬ S b) : w'.cell? ⟨b, o, none⟩ = w.cell? ⟨b, o, none⟩ := by
  simp [World.cell?, h.block b hb hn]
theorem frozen {S : Nat → Prop} {w w' : World} (h : Upd S w w') {b o : Nat} (hb : b < w.heap.size) (hn : ¬ S b) : w'.frozen? ⟨b, o, none⟩ = w.frozen? ⟨b, o, none⟩ := by
  simp [World.frozen?, h.block b hb hn]
/-- Old cells and marks, below a bound that S does not reach: two rules for the walk. -/
theorem olds {S : Nat → Prop} {w w' : World} (h : Upd S w w') (n : Nat) (hn : n ≤ w.heap.size) (hs : ∀ k, k < n → ¬ S k) :
    (∀ b o, b < n → w'.cell? ⟨b, o, none⟩ = w.cell? ⟨b, o, none⟩) ∧ (∀ b o, b < n → w'.frozen? ⟨b, o, none⟩ = w.frozen? ⟨b, o, none⟩) :=
  ⟨fun b o hb => h.cell (by omega) (hs b hb), fun b o hb => h.frozen (by omega) (hs b hb)⟩
end Upd
/-- Nothing old has turned. -/
abbrev Pure (w w' : World) : Prop := Upd (fun _ => False) w w'
theorem Pure.below {w w' : World} (h : Pure w w') : Below w.heap.size w w' := Upd.below h (Nat.le_refl _) (fun _ _ h => h)
theorem Pure.olds {w w' : World} (h : Pure w w') : (∀ b o, b < w.heap.size → w'.cell? ⟨b, o, none⟩ = w.cell? ⟨b, o, none⟩) ∧ (∀ b o, b < w.heap.size → w'.frozen? ⟨b, o, none⟩ = w.frozen? ⟨b, o, none⟩) :=
  Upd.olds h _ (Nat.le_refl _) (fun _ _ h => h)
section
variable {P : Program} (w : World)
end
/-- One step of the walk through a drawn region: nothing old has turned. -/
structure Stp (w w1 : World) : Prop where mk :: (out : Pure w w1)
/-- sz cells; what they say (in a world, with a footprint F: the blocks below the heap's end that are looked into). -/
structure Rp (α : Type) where
  sz : Nat
  rep : World → (Nat → Prop) → α → List Value → Prop
  len : ∀ {w F x cs}, rep w F x cs → cs.length = sz
  one : ∀ {w F x cs}, rep w F x cs → ∀ u ∈ cs, u.oneCell' = true
  move : ∀ {w w1 : World} {F G : Nat → Prop} {x cs}, (∀ k, F k → k < w.heap.size → G k ∧ k < w1.heap.size ∧ w1.heap[k]? = w.heap[k]?) → rep w F x cs → rep w1 G x cs
/-- A row of cells: element after element. -/
def Reps {α : Type} (R : α → List Value → Prop) (size : Nat) (xs : List α) (cs : List Value) : Prop :=
  cs.length = xs.length * size ∧ ∀ j x, xs[j]? = some x → R x ((cs.drop (j * size)).take size)
theorem Reps.imp {α : Type} {R R' : α → List Value → Prop} {size : Nat} {xs : List α} {cs : List Value} (h : Reps R size xs cs) (hi : ∀ x c, R x c → R' x c) : Reps R' size xs cs :=
  ⟨h.1, fun j x hx => hi _ _ (h.2 j x hx)⟩
theorem Reps.nil {α : Type} (R : α → List Value → Prop) (size : Nat) : Reps R size ([] : List α) [] := ⟨by simp, by simp⟩
theorem Reps.append {α : Type} {R : α → List Value → Prop} {size : Nat} {xs ys : List α} {cs ds : List Value} (h : Reps R size xs cs) (h' : Reps R size ys ds) : Reps R size (xs ++ ys) (cs ++ ds) := by
  refine ⟨by rw [List.length_append, List.length_append, h.1, h'.1, Nat.add_mul], fun j x hx => ?_⟩
  rcases Nat.lt_or_ge j xs.length with hj | hj
  · rw [List.getElem?_append_left hj] at hx
    have hle : (j + 1) * size ≤ xs.length * size := Nat.mul_le_mul_right _ hj
    have h2 : j * size + size ≤ cs.length := by rw [h.1]; rw [Nat.add_mul] at hle; omega
    rw [List.drop_append_of_le_length (by omega), List.take_append_of_le_length (by rw [List.length_drop]; omega)]
    exact h.2 j x hx
  · rw [List.getElem?_append_right hj] at hx
    have hle : xs.length * size ≤ j * size := Nat.mul_le_mul_right _ hj
    have e : j * size - cs.length = (j - xs.length) * size := by rw [h.1, Nat.sub_mul]
    rw [List.drop_append, List.drop_eq_nil_of_le (by rw [h.1]; exact hle), List.nil_append, e]
    exact h'.2 _ x hx
theorem Reps.single {α : Type} {R : α → List Value → Prop} {size : Nat} {x : α} {cs : List Value} (h : R x cs) (hl : cs.length = size) : Reps R size [x] cs := by
  refine ⟨by simp [hl], fun j y hy => ?_⟩
  match j, hy with
  | 0, hy =>
    simp at hy
    subst hy
    rw [Nat.zero_mul, List.drop_zero, ← hl, List.take_length]
    exact h
  | j + 1, hy => simp at hy
namespace Rp
variable {α β : Type}
/-- A row that is read: its first element lies at A. -/
def row (d : Rp α) (w : World) (F : Nat → Prop) (A : Option Addr) (xs : List α) : Prop :=
  xs = [] ∨ ∃ b o, A = some ⟨b, o, none⟩ ∧ F b ∧ b < w.heap.size ∧ ∀ j x, xs[j]? = some x → ∃ cs, d.rep w F x cs ∧ ∀ i u, cs[i]? = some u → w.cell? ⟨b, o + j * d.sz + i, none⟩ = some u
theorem row_move {d : Rp α} {w w1 : World} {F G : Nat → Prop} {A : Option Addr} {xs : List α} (hm : ∀ k, F k → k < w.heap.size → G k ∧ k < w1.heap.size ∧ w1.heap[k]? = w.heap[k]?) (h : d.row w F A xs) : d.row w1 G A xs := by
  rcases h with h | ⟨b, o, hA, hF, hb, hc⟩
  · exact .inl h
  · obtain ⟨hG, hb1, he⟩ := hm b hF hb
    refine .inr ⟨b, o, hA, hG, hb1, fun j x hx => ?_⟩
    obtain ⟨cs, hr, hcs⟩ := hc j x hx
    refine ⟨cs, d.move hm hr, fun i u hu => ?_⟩
    rw [← hcs i u hu]
    simp [World.cell?, he]
/-- A slice in one cell. -/
def slice (d : Rp α) : Rp (List α) where
  sz := 1
  rep := fun w F xs cs => ∃ A c, cs = [.slice A xs.length c] ∧ xs.length ≤ c ∧ d.row w F A xs
  len := by
    rintro w F x cs ⟨A, c, rfl, _⟩
    rfl
  one := by
    rintro w F x cs ⟨A, c, rfl, _⟩ u hu
    rw [List.mem_singleton.1 hu]
    rfl
  move := by
    rintro w w1 F G x cs hm ⟨A, c, rfl, hl, hr⟩
    exact ⟨A, c, rfl, hl, row_move hm hr⟩
def scalar (enc : α → Value) (h1 : ∀ x, (enc x).oneCell' = true) : Rp α where
  sz := 1
  rep := fun _ _ x cs => cs = [enc x]
  len := fun h => by rw [h]; rfl
  one := fun h u hu => by
    rw [h] at hu
    rw [List.mem_singleton.1 hu]
    exact h1 _
  move := fun _ h => h
def int (k : IntKind) : Rp Int := scalar (Value.int k) (fun _ => rfl)
def bool : Rp Bool := scalar Value.bool (fun _ => rfl)
def string : Rp ByteArray := scalar Value.string (fun _ => rfl)
def pair (a : Rp α) (b : Rp β) : Rp (α × β) where
  sz := a.sz + b.sz
  rep := fun w F x cs => ∃ c0 c1, cs = c0 ++ c1 ∧ a.rep w F x.1 c0 ∧ b.rep w F x.2 c1
  len := by
    rintro w F x cs ⟨c0, c1, rfl, h0, h1⟩
    rw [List.length_append, a.len h0, b.len h1]
  one := by
    rintro w F x cs ⟨c0, c1, rfl, h0, h1⟩ u hu
    rcases List.mem_append.1 hu with hu | hu
    · exact a.one h0 u hu
    · exact b.one h1 u hu
  move := by
    rintro w w1 F G x cs hm ⟨c0, c1, rfl, h0, h1⟩
    exact ⟨c0, c1, rfl, a.move hm h0, b.move hm h1⟩
theorem row_nil (d : Rp α) (w : World) (F : Nat → Prop) (A : Option Addr) : d.row w F A [] := .inl rfl
/-- An element of a row that is read. -/
theorem row_at {d : Rp α} {w : World} {F : Nat → Prop} {A : Option Addr} {xs : List α} (h : d.row w F A xs) {j : Nat} {x : α} (hx : xs[j]? = some x) :
    ∃ b o cs, A = some ⟨b, o, none⟩ ∧ F b ∧ b < w.heap.size ∧ d.rep w F x cs ∧ ∀ i u, cs[i]? = some u → w.cell? ⟨b, o + j * d.sz + i, none⟩ = some u := by
  rcases h with rfl | ⟨b, o, hA, hF, hb, hc⟩
  · simp at hx
  · obtain ⟨cs, hr, hcs⟩ := hc j x hx
    exact ⟨b, o, cs, hA, hF, hb, hr, hcs⟩
/-- A block whose cells are known, as a row. -/
theorem row_of_block {d : Rp α} {w : World} {F : Nat → Prop} {b : Nat} {cs : Array Value} {e : TypeId} {fr : Nat × Nat} {xs : List α} (hb : w.heap[b]? = some (.cells cs e fr)) (hF : F b) (h : Reps (d.rep w F) d.sz xs cs.toList) : d.row w F (some ⟨b, 0, none⟩) xs := by
  refine .inr ⟨b, 0, rfl, hF, (Array.getElem?_eq_some_iff.1 hb).1, fun j x hx => ⟨_, h.2 j x hx, fun i u hu => ?_⟩⟩
  rw [List.getElem?_take] at hu
  split at hu
  · rw [List.getElem?_drop] at hu
    simp [World.cell?, hb]
    simpa using hu
  · cases hu
/-- A row of the call's own (elements of type e): a block of its own, or nil. -/
def own (d : Rp α) (e : Nat) (w : World) (F : Nat → Prop) (v : Value) (xs : List α) : Prop :=
  ∃ inner, w.ownsRow 0 e d.sz v xs.length inner ∧ (∀ k, v.ownBlock = some k → F k) ∧ Reps (d.rep w (fun k => F k ∧ some k ≠ v.ownBlock)) d.sz xs inner
theorem own_nil (d : Rp α) (e : Nat) (w : World) (F : Nat → Prop) : d.own e w F (.slice none 0 0) [] :=
  ⟨[], World.ownsRow_nil _ _ _ _, fun k hk => by simp [Value.ownBlock] at hk, Reps.nil _ _⟩
theorem own_move {d : Rp α} {e : Nat} {w w1 : World} {F G : Nat → Prop} {v : Value} {xs : List α} (hm : ∀ k, F k → k < w.heap.size → G k ∧ k < w1.heap.size ∧ w1.heap[k]? = w.heap[k]?) (h : d.own e w F v xs) : d.own e w1 G v xs := by
  obtain ⟨inner, ho, hF, hr⟩ := h
  refine ⟨inner, ⟨ho.1, ?_⟩, fun k hk => (hm k (hF k hk) (ho.lt k hk).2).1, hr.imp fun x c hc => d.move (fun k hk hk' => ?_) hc⟩
  · rcases ho.2 with hn | ⟨g, cap, cur, rfl, hb, hg, rest⟩
    · exact .inl hn
    · refine .inr ⟨g, cap, cur, rfl, hb, ?_, rest⟩
      rw [(hm g (hF g (by simp [Value.ownBlock])) (Array.getElem?_eq_some_iff.1 hg).1).2.2]
      exact hg
  · obtain ⟨h1, h2, h3⟩ := hm k hk.1 hk'
    exact ⟨⟨h1, hk.2⟩, h2, h3⟩
theorem own_upd {d : Rp α} {e : Nat} {w w1 : World} {F S : Nat → Prop} {v : Value} {xs : List α} (h : d.own e w F v xs) (hu : Upd S w w1) (hs : ∀ k, k < w.heap.size → F k → ¬ S k) : d.own e w1 F v xs :=
  own_move (fun k hk hl => ⟨hk, Nat.lt_of_lt_of_le hl hu.size, hu.block k hl (hs k hl hk)⟩) h
theorem own_alloc {d : Rp α} {e : Nat} {w : World} {F : Nat → Prop} {v : Value} {xs : List α} (h : d.own e w F v xs) (o : Obj) : d.own e (w.alloc o) F v xs :=
  own_upd h (Upd.alloc1 (fun _ => False) w o) (fun _ _ _ h => h)
theorem own_drew {d : Rp α} {e : Nat} {w : World} {F : Nat → Prop} {v : Value} {xs : List α} (h : d.own e w F v xs) : d.own e w.drew F v xs :=
  own_upd h ((Upd.refl (fun _ => False) w).drew) (fun _ _ _ h => h)
theorem row_upd {d : Rp α} {w w1 : World} {F S : Nat → Prop} {A : Option Addr} {xs : List α} (h : d.row w F A xs) (hu : Upd S w w1) (hs : ∀ k, k < w.heap.size → F k → ¬ S k) : d.row w1 F A xs :=
  row_move (fun k hk hl => ⟨hk, Nat.lt_of_lt_of_le hl hu.size, hu.block k hl (hs k hl hk)⟩) h
theorem row_pure {d : Rp α} {w w1 : World} {F : Nat → Prop} {A : Option Addr} {xs : List α} (h : d.row w F A xs) (hu : Pure w w1) : d.row w1 F A xs :=
  row_upd h hu (fun _ _ _ h => h)
theorem row_fp {d : Rp α} {w : World} {F G : Nat → Prop} {A : Option Addr} {xs : List α} (h : d.row w F A xs) (hG : ∀ k, F k → G k) : d.row w G A xs :=
  row_move (fun k hk hl => ⟨hG k hk, hl, rfl⟩) h
theorem own_fp {d : Rp α} {e : Nat} {w : World} {F G : Nat → Prop} {v : Value} {xs : List α} (h : d.own e w F v xs) (hG : ∀ k, F k → G k) : d.own e w G v xs :=
  own_move (fun k hk hl => ⟨hG k hk, hl, rfl⟩) h
theorem own_slice {d : Rp α} {e : Nat} {w : World} {F : Nat → Prop} {v : Value} {xs : List α} (h : d.own e w F v xs) : ∃ A c, v = .slice A xs.length c ∧ xs.length ≤ c ∧ d.row w F A xs := by
  obtain ⟨inner, ho, hF, hr⟩ := h
  rcases ho.2 with ⟨rfl, h0⟩ | ⟨g, cap, cur, rfl, _, hg, hle, _, hcs, htake⟩
  · have : xs = [] := List.eq_nil_of_length_eq_zero h0
    subst this
    exact ⟨none, 0, rfl, Nat.le_refl _, .inl rfl⟩
  · refine ⟨_, cap, rfl, hle, .inr ⟨g, 0, rfl, hF g (by simp [Value.ownBlock]), (Array.getElem?_eq_some_iff.1 hg).1, fun j x hx => ⟨_, d.move (fun k hk hk' => ⟨hk.1, hk', rfl⟩) (hr.2 j x hx), fun i u hu => ?_⟩⟩⟩
    rw [List.getElem?_take] at hu
    split at hu
    · rw [List.getElem?_drop] at hu
      rw [← htake, List.getElem?_take] at hu
      split at hu
      · simp [World.cell?, hg]
        simpa using hu
      · cases hu
    · cases hu
theorem own_block_lt {d : Rp α} {e : Nat} {w : World} {F : Nat → Prop} {v : Value} {xs : List α} (h : d.own e w F v xs) : ∀ k, v.ownBlock = some k → F k ∧ k < w.heap.size := by
  obtain ⟨inner, ho, hF, _⟩ := h
  exact fun k hk => ⟨hF k hk, (ho.lt k hk).2⟩
/-- What an append leaves. The new elements' blocks (Fp) are no block of the row's own; new blocks are in G. -/
theorem own_appended {d : Rp α} {e : Nat} {w w1 : World} {F Fp G : Nat → Prop} {v v1 : Value} {xs ys : List α} {news inner : List Value}
    (h0 : ∀ k, v.ownBlock = some k → F k) (hr : Reps (d.rep w (fun k => F k ∧ some k ≠ v.ownBlock)) d.sz xs inner)
    (hy : Reps (d.rep w Fp) d.sz ys news) (hFp : ∀ k, Fp k → k < w.heap.size → G k ∧ some k ≠ v.ownBlock) (hFG : ∀ k, F k → k < w.heap.size → G k) (hnew : ∀ k, w.heap.size ≤ k → G k)
    (hown : w1.ownsRow 0 e d.sz v1 (xs.length + ys.length) (inner ++ news)) (hg : w.grownBy w1 v.ownBlock) (hlt : ∀ k, v.ownBlock = some k → k < w.heap.size)
    (hat : v1.ownBlock = v.ownBlock ∨ ∃ b, v1.ownBlock = some b ∧ w.heap.size ≤ b) : d.own e w1 G v1 (xs ++ ys) := by
  have hne : ∀ k, some k ≠ v.ownBlock → k < w.heap.size → some k ≠ v1.ownBlock := by
    intro k hk hl
    rcases hat with hat | ⟨b, hb, hle⟩
    · rw [hat]; exact hk
    · rw [hb]
      intro he
      injection he with he
      omega
  refine ⟨inner ++ news, by rw [List.length_append]; exact hown, fun k hk => ?_, Reps.append (hr.imp fun x c hc => d.move (fun k hk hl => ?_) hc) (hy.imp fun x c hc => d.move (fun k hk hl => ?_) hc)⟩
  · rcases hat with hat | ⟨b, hb, hle⟩
    · rw [hat] at hk
      exact hFG k (h0 k hk) (hlt k hk)
    · rw [hb] at hk
      injection hk with hk
      exact hnew k (by omega)
  · exact ⟨⟨hFG k hk.1 hl, hne k hk.2 hl⟩, Nat.lt_of_lt_of_le hl hg.size, hg.block k hl hk.2⟩
  · obtain ⟨h1, h2⟩ := hFp k hk hl
    exact ⟨⟨h1, hne k h2 hl⟩, Nat.lt_of_lt_of_le hl hg.size, hg.block k hl h2⟩
section
variable {P : Program} {ops : Array Oper} {rest : List Oper} {o : Oper} {a : Act} {Q : Exit → Act → World → Prop}
/-- append(v, x) of one element, behind 'at_builtin': the goal's world is W with the variadic box of x's cells. -/
theorem own_append (d : Rp α) {e : Nat} {W : World} {F Fp G : Nat → Prop} {v : Value} {xs : List α} (HO : d.own e W F v xs) (p : α) (cs : List Value) (hp : d.rep W Fp p cs)
    (hFp : ∀ k, Fp k → k < W.heap.size → G k ∧ some k ≠ v.ownBlock) (hFG : ∀ k, F k → k < W.heap.size → G k) (hnew : ∀ k, W.heap.size ≤ k → G k)
    (hgd : o.guard = none) (s x : Operand) (t : TypeId) (z : Value) (bytes : Nat)
    (ho : o.op = .call { callee := .builtin .append, args := #[s, x], argTypes := #[t, t] })
    (ht : P.underlying t = some (.slice e)) (hinfo : (P.info? e).map (fun i => (i.zero, i.size, i.bytes)) = some (some z, d.sz, bytes)) (hz : z.cells.size = d.sz) (hs0 : 0 < d.sz) (hb0 : 0 < bytes)
    (hs : a.eval s = v) (hx : a.eval x = .slice (some ⟨W.heap.size, 0, none⟩) 1 1) (hl : (xs.length + 1) * bytes ≤ 140737488355328)
    (h : ∀ v1 w1, d.own e w1 G v1 (xs ++ [p]) → Upd (fun k => v.ownBlock = some k) W w1 → wpList P ops Q rest (a.put o.dst v1) w1) :
    wpList P ops Q (o :: rest) a (W.alloc (.cells cs.toArray e)) := by
  obtain ⟨inner, hown, hF, hr⟩ := HO
  obtain ⟨i0, hi, hzz⟩ := Option.map_eq_some_iff.1 hinfo
  simp only [Prod.mk.injEq] at hzz
  obtain ⟨hz0, hz1, hz2⟩ := hzz
  have hlen : xs.length + 1 ≤ 140737488355328 := Nat.le_trans (Nat.le_mul_of_pos_right _ hb0) hl
  refine wpList_append_own_at (W.alloc (.cells cs.toArray e)) hgd s x t ho 0 e i0 z d.sz bytes ht hi hz0 hz1 hz2 hz hs0 v xs.length inner hs (hown.alloc _) ⟨W.heap.size, 0, none⟩ 1 1 cs hx (by rw [d.len hp]; simp)
    (by simpa using World.news_of_block (cs := cs.toArray) (t := e) (fr := (0, 0)) (heap_alloc_new W (.cells cs.toArray e))) (d.one hp) (by simp only [maxLen]; omega) hl (by simp) ?_
  intro v1 w1 hown1 hg1 _ hat
  have hg : W.grownBy w1 v.ownBlock := World.grownBy.trans (World.grownBy_alloc W _ _) hg1
  refine h v1 w1 (own_appended (Fp := Fp) hF hr (Reps.single hp (d.len hp)) hFp hFG hnew (by simpa using hown1) hg (fun k hk => (hown.lt k hk).2) ?_) (Upd.grown1 hg (fun k hk => hk))
  rcases hat with hat | hat
  · exact .inl hat
  · exact .inr ⟨_, hat, by simp⟩
end
end Rp
end Go.Proofs.YtofjodppljnlaaaGreatDoor
namespace Go.Proofs.YtofjodppljnlaaaGreatDoor
open Go.RowKit
set_option linter.unusedVariables false
set_option linter.unusedSimpArgs false
structure Tok where
  k : Int
  t : Int
  n : Int
  m : Int
deriving DecidableEq
abbrev Tok.cs (x : Tok) : List Value := [.int .i64 x.k, .int .i64 x.t, .int .i64 x.n, .int .i64 x.m]
abbrev Tok.val (x : Tok) : Value := .agg #[.int .i64 x.k, .int .i64 x.t, .int .i64 x.n, .int .i64 x.m]
def tokR : Rp Tok where
  sz := 4
  rep := fun _ _ x cs => cs = x.cs
  len := fun h => by rw [h]; rfl
  one := fun h u hu => by
    rw [h] at hu
    simp [Tok.cs] at hu
    rcases hu with rfl | rfl | rfl | rfl <;> rfl
  move := fun _ h => h
/-- A token of a row that is read. -/
theorem tok_at {w : World} {F : Nat → Prop} {A : Option Addr} {xs : List Tok} (h : tokR.row w F A xs) {j : Nat} {x : Tok} (hx : xs[j]? = some x) :
    ∃ b o, A = some ⟨b, o, none⟩ ∧ F b ∧ b < w.heap.size ∧ w.cell? ⟨b, o + j * 4, none⟩ = some (.int .i64 x.k) ∧ w.cell? ⟨b, o + j * 4 + 1, none⟩ = some (.int .i64 x.t) ∧ w.cell? ⟨b, o + j * 4 + 2, none⟩ = some (.int .i64 x.n) ∧ w.cell? ⟨b, o + j * 4 + 3, none⟩ = some (.int .i64 x.m) := by
  obtain ⟨b, o, cs, hA, hF, hb, hr, hc⟩ := Rp.row_at h hx
  have hr' : cs = x.cs := hr
  subst hr'
  exact ⟨b, o, hA, hF, hb, hc 0 _ rfl, hc 1 _ rfl, hc 2 _ rfl, hc 3 _ rfl⟩
theorem tok_info : (Tryz.prog.info? 71).map (fun i => (i.zero, i.size, i.bytes)) = some (some (.agg #[.int .i64 0, .int .i64 0, .int .i64 0, .int .i64 0]), 4, 32) := by kernel_rfl
theorem ret_bool {a b : Bool} (h : a = b) : Ending.returned (.bool a) = .returned (.bool b) := by rw [h]
def MarkP (s : Int) : Prop := 0 ≤ s ∧ s ≤ 4
instance (s : Int) : Decidable (MarkP s) := by unfold MarkP; infer_instance
def PointP (n : Int) : Prop := 0 ≤ n ∧ n ≤ 1114111 ∧ n / 2048 ≠ 27
instance (n : Int) : Decidable (PointP n) := by unfold PointP; infer_instance
/-- A token that is one. -/
def RightP (x : Tok) : Prop :=
  (x.k = 0 ∧ x.t = 0 ∧ PointP x.n ∧ MarkP x.m) ∨ (x.k = 2 ∧ x.t = 0 ∧ x.n = 0 ∧ x.m = 0) ∨ ((x.k = 1 ∨ x.k = 3) ∧ 0 < x.t ∧ x.t < 16 ∧ 0 ≤ x.n ∧ x.n < 16 ∧ x.m = 0)
instance (x : Tok) : Decidable (RightP x) := by unfold RightP; infer_instance
def markB (s : Int) : Bool := decide (MarkP s)
def pointB (n : Int) : Bool := decide (PointP n)
def rightB (x : Tok) : Bool := decide (RightP x)
theorem drop_cons {α : Type} {l : List α} {k : Nat} {x : α} (h : l[k]? = some x) : l.drop k = x :: l.drop (k + 1) := by
  obtain ⟨hk, he⟩ := List.getElem?_eq_some_iff.1 h
  rw [List.drop_eq_getElem_cons hk, he]
end Go.Proofs.YtofjodppljnlaaaGreatDoor
namespace Go.Proofs.YtofjodppljnlaaaGreatDoor
open Go.RowKit
set_option linter.unusedVariables false
set_option linter.unusedSimpArgs false
set_option maxRecDepth 100000 in
set_option maxHeartbeats 4000000 in
theorem markRight_calls (s : Int) (w : World) : Calls Tryz.prog 148 #[.int .i64 s] w fun e w' => e = .returned (.bool (markB s)) ∧ w = w' := by
  go_enter Tryz.func148, Tryz.ntmps148
  go_wp2
  all_goals go_ret
  all_goals exact ⟨ret_bool (by rw [Bool.eq_iff_iff]; (try simp only [markB, decide_eq_true_eq, Bool.and_eq_true, Bool.or_eq_true, Bool.not_eq_true', Bool.not_eq_eq_eq_not, Bool.not_true, Bool.not_false, beq_iff_eq, bne_iff_ne, beq_eq_false_iff_ne, bne_eq_false_iff_eq, decide_eq_false_iff_not, Bool.false_eq_true, Bool.true_eq_false, ne_eq, iff_true, true_iff, iff_false, false_iff, eq_self_iff_true, Bool.and_true, Bool.true_and, Bool.and_false, Bool.false_and, Bool.or_true, Bool.true_or, Bool.or_false, Bool.false_or] at *); all_goals (try simp only [MarkP, decide_eq_true_eq, Bool.and_eq_true, Bool.or_eq_true, Bool.not_eq_true', Bool.not_eq_eq_eq_not, Bool.not_true, Bool.not_false, beq_iff_eq, bne_iff_ne, beq_eq_false_iff_ne, bne_eq_false_iff_eq, decide_eq_false_iff_not, Bool.false_eq_true, Bool.true_eq_false, ne_eq, iff_true, true_iff, iff_false, false_iff, eq_self_iff_true, Bool.and_true, Bool.true_and, Bool.and_false, Bool.false_and, Bool.or_true, Bool.true_or, Bool.or_false, Bool.false_or] at *); all_goals omega), rfl⟩
set_option maxRecDepth 100000 in
set_option maxHeartbeats 4000000 in
theorem flatRight_calls (x : Tok) (w : World) : Calls Tryz.prog 102 #[x.val] w fun e w' => e = .returned (.bool (rightB x)) ∧ Pure w w' := by
  go_enter Tryz.func102, Tryz.ntmps102
  go_wp2_with (go_at_call 148; refine (markRight_calls _ _).mono ?_; rintro e w1 ⟨rfl, rfl⟩)
  all_goals go_ret
  all_goals exact ⟨ret_bool (by rw [Bool.eq_iff_iff]; (try simp only [rightB, markB, decide_eq_true_eq, Bool.and_eq_true, Bool.or_eq_true, Bool.not_eq_true', Bool.not_eq_eq_eq_not, Bool.not_true, Bool.not_false, beq_iff_eq, bne_iff_ne, beq_eq_false_iff_ne, bne_eq_false_iff_eq, decide_eq_false_iff_not, Bool.false_eq_true, Bool.true_eq_false, ne_eq, iff_true, true_iff, iff_false, false_iff, eq_self_iff_true, Bool.and_true, Bool.true_and, Bool.and_false, Bool.false_and, Bool.or_true, Bool.true_or, Bool.or_false, Bool.false_or] at *); all_goals (try simp only [RightP, MarkP, PointP, decide_eq_true_eq, Bool.and_eq_true, Bool.or_eq_true, Bool.not_eq_true', Bool.not_eq_eq_eq_not, Bool.not_true, Bool.not_false, beq_iff_eq, bne_iff_ne, beq_eq_false_iff_ne, bne_eq_false_iff_eq, decide_eq_false_iff_not, Bool.false_eq_true, Bool.true_eq_false, ne_eq, iff_true, true_iff, iff_false, false_iff, eq_self_iff_true, Bool.and_true, Bool.true_and, Bool.and_false, Bool.false_and, Bool.or_true, Bool.true_or, Bool.or_false, Bool.false_or] at *); all_goals omega), (Upd.refl _ _).alloc _⟩
theorem flatRight_is {x : Tok} {b : Bool} (h : rightB x = b) (w : World) : Calls Tryz.prog 102 #[x.val] w fun e w' => e = .returned (.bool b) ∧ Pure w w' := h ▸ flatRight_calls x w
end Go.Proofs.YtofjodppljnlaaaGreatDoor
namespace Go.Proofs.YtofjodppljnlaaaGreatDoor
open Go.RowKit
set_option linter.unusedVariables false
set_option linter.unusedSimpArgs false
/-- P4.1: the place and the number of what is wrong. -/
def fcGo : Nat → Nat → List Tok → Int × Int
  | i, n, [] => (i, if n = 0 then 0 else 3)
  | i, n, t :: r => if rightB t = false ∨ (t.k = 2 ∧ n = 0) then (i, 4) else if t.k = 1 then (if n = 32 then (i, 8) else fcGo (i + 1) (n + 1) r) else if t.k = 2 then fcGo (i + 1) (n - 1) r else fcGo (i + 1) n r
def flatCheck (l : List Tok) : Int × Int := if l.length > 2048 then (0, 2) else fcGo 0 0 l
/-- What the call has of its own: the places of what is open. -/
def FcRel (w wr : World) (l : List Tok) (k n : Nat) : Prop :=
  fcGo k n (l.drop k) = flatCheck l ∧ Pure w wr ∧ w.heap.size < wr.heap.size ∧ ∃ cs, cs.size = 32 ∧ wr.heap[w.heap.size]? = some (.cells cs 171)
theorem FcRel.upd {w wr w1 : World} {l : List Tok} {k n' : Nat} (h : As (Pure w wr)) (hz : w.heap.size < wr.heap.size) {cs : Array Value} (hc : cs.size = 32) (hb : As (wr.heap[w.heap.size]? = some (.cells cs 171))) (hu : Pure wr w1) (he : fcGo (k + 1) n' (l.drop (k + 1)) = flatCheck l) : FcRel w w1 l (k + 1) n' :=
  ⟨he, h.out.trans hu (fun _ _ h => h), Nat.lt_of_lt_of_le hz hu.size, cs, hc, by rw [hu.block _ hz (fun h => h)]; exact hb.out⟩
theorem FcRel.set {w wr w1 : World} {l : List Tok} {k n n' : Nat} {u : Value} (h : As (Pure w wr)) (hz : w.heap.size < wr.heap.size) {cs : Array Value} (hc : cs.size = 32) (hb : As (wr.heap[w.heap.size]? = some (.cells cs 171))) (hu : Pure wr w1) (he : fcGo (k + 1) n' (l.drop (k + 1)) = flatCheck l) : FcRel w (w1.setCell ⟨w.heap.size, n, none⟩ u) l (k + 1) n' :=
  ⟨he, (h.out.trans hu (fun _ _ h => h)).setCell (p := ⟨w.heap.size, n, none⟩) (fun h => absurd h (Nat.lt_irrefl _)) u, by simpa [World.setCell] using Nat.lt_of_lt_of_le hz hu.size, cs.setIfInBounds n u, by simpa using hc, by
    have := hu.block _ hz (fun h => h)
    simp [World.setCell, Array.getElem?_modify, this, hb.out]⟩
set_option maxRecDepth 100000 in
set_option maxHeartbeats 4000000 in
theorem Check_calls {F : Nat → Prop} {A : Option Addr} {c : Nat} {l : List Tok} {w : World} (hr : tokR.row w F A l) (hb : l.length ≤ 1048576 * 4) :
    Calls Tryz.prog 64 #[.slice A l.length c] w fun e w' => e = .returned (.tuple #[.int .i64 (flatCheck l).1, .int .i64 (flatCheck l).2]) ∧ Pure w w' := by
  by_cases hbig : l.length > 2048
  · have he : flatCheck l = (0, 2) := by unfold flatCheck; rw [if_pos hbig]
    rw [he]
    have hgt : ((l.length : Int) > 2048) := by omega
    clear hbig
    go_enter Tryz.func64, Tryz.ntmps64
    go_wp2
    go_ret2
    exact ⟨rfl, Upd.refl _ _⟩
  · have he : fcGo 0 0 l = flatCheck l := by unfold flatCheck; rw [if_neg hbig]
    have HR := As.mk hr
    have HE := As.mk he
    have hgt : ¬ ((l.length : Int) > 2048) := by omega
    clear hr he
    go_enter Tryz.func64, Tryz.ntmps64
    go_wp2
    go_loopg [5, 13] l.length (fun g op i wr => ∃ k n : Nat, k + g = l.length ∧ i = .int .i64 k ∧ op = .int .i64 n ∧ n ≤ 32 ∧ As (FcRel w wr l k n))
    case atStart => exact ⟨0, 0, by omega, rfl, rfl, by omega, ⟨HE.out, (Upd.refl _ _).alloc _, by simp, _, by simp, heap_alloc_new w _⟩⟩
    case round =>
      obtain ⟨k, n, hk, rfl, rfl, hn, HC⟩ := hrel
      obtain ⟨heq, hp, hsz, cs, hcs, hblk⟩ := HC.out
      by_cases hlt : k < l.length
      · obtain ⟨x, hx⟩ : ∃ x, l[k]? = some x := ⟨_, List.getElem?_eq_getElem hlt⟩
        obtain ⟨b, o, rfl, hF, hbl, c0, c1, c2, c3⟩ := tok_at (Rp.row_pure HR.out hp) hx
        obtain ⟨g1, rfl⟩ : ∃ m, gk = m + 1 := ⟨gk - 1, by omega⟩
        rw [drop_cons hx] at heq
        have HE2 := As.mk heq
        have HP := As.mk hp
        have HB := As.mk hblk
        have HK := As.mk hk
        clear heq hp hblk hk hx HC HE
        cases hr : rightB x
        · have HV := As.mk (show ((k : Int), (4 : Int)) = flatCheck l by rw [← HE2.out]; simp [fcGo, hr])
          clear HE2
          go_wp2_with (go_at_call 102; refine (flatRight_is hr _).mono ?_; rintro e w1 ⟨rfl, hu1⟩; have HU1 := As.mk hu1; obtain ⟨oc, of⟩ := hu1.olds; have hz1 := hu1.size; clear hu1)
          go_ret2
          rw [← HV.out]
          exact ⟨rfl, HP.out.trans (Upd.trans (Upd.alloc1 _ _ _) HU1.out (fun _ _ h => h)) (fun _ _ h => h)⟩
        · by_cases h2 : x.k = 2
          · have e2 : (x.k == 2) = true := by simp [h2]
            have e1 : (x.k == 1) = false := by simp [h2]
            by_cases h0 : n = 0
            · have HV := As.mk (show ((k : Int), (4 : Int)) = flatCheck l by rw [← HE2.out]; simp [fcGo, hr, h2, h0])
              subst h0
              clear HE2 h2
              go_wp2_with (go_at_call 102; refine (flatRight_is hr _).mono ?_; rintro e w1 ⟨rfl, hu1⟩; have HU1 := As.mk hu1; obtain ⟨oc, of⟩ := hu1.olds; have hz1 := hu1.size; clear hu1)
              go_ret2
              rw [← HV.out]
              exact ⟨rfl, HP.out.trans (Upd.trans (Upd.alloc1 _ _ _) HU1.out (fun _ _ h => h)) (fun _ _ h => h)⟩
            · have e0 : ((n : Int) == 0) = false := by simp; omega
              have HV := As.mk (show fcGo (k + 1) (n - 1) (l.drop (k + 1)) = flatCheck l by rw [← HE2.out]; simp [fcGo, hr, h2, h0])
              have hn1 : 1 ≤ n := by omega
              clear HE2 h2 h0
              go_wp2_with (go_at_call 102; refine (flatRight_is hr _).mono ?_; rintro e w1 ⟨rfl, hu1⟩; have HU1 := As.mk hu1; obtain ⟨oc, of⟩ := hu1.olds; have hz1 := hu1.size; clear hu1)
              go_roundg g1
              case measure => omega
              case rel => exact ⟨k + 1, n - 1, by have := HK.out; omega, by go_num, by first | rfl | go_num | (congr 1; omega), by omega, ⟨FcRel.upd HP hsz hcs HB (Upd.trans (Upd.alloc1 _ _ _) HU1.out (fun _ _ h => h)) HV.out⟩⟩
          · have e2 : (x.k == 2) = false := by simp [h2]
            by_cases h1 : x.k = 1
            · have e1 : (x.k == 1) = true := by simp [h1]
              by_cases h32 : n = 32
              · have HV := As.mk (show ((k : Int), (8 : Int)) = flatCheck l by rw [← HE2.out]; simp [fcGo, hr, h1, h32])
                subst h32
                clear HE2 h2 h1
                go_wp2_with (go_at_call 102; refine (flatRight_is hr _).mono ?_; rintro e w1 ⟨rfl, hu1⟩; have HU1 := As.mk hu1; obtain ⟨oc, of⟩ := hu1.olds; have hz1 := hu1.size; clear hu1)
                go_ret2
                rw [← HV.out]
                exact ⟨rfl, HP.out.trans (Upd.trans (Upd.alloc1 _ _ _) HU1.out (fun _ _ h => h)) (fun _ _ h => h)⟩
              · have e0 : ((n : Int) == 32) = false := by simp; omega
                have HV := As.mk (show fcGo (k + 1) (n + 1) (l.drop (k + 1)) = flatCheck l by rw [← HE2.out]; simp [fcGo, hr, h1, h32])
                have hn1 : n < 32 := by omega
                obtain ⟨u, hu⟩ : ∃ u, cs[n]? = some u := ⟨_, Array.getElem?_eq_getElem (by omega)⟩
                have q1 : wr.cell? ⟨w.heap.size, n, none⟩ = some u := by simp [World.cell?, HB.out, hu]
                have q2 : wr.frozen? ⟨w.heap.size, n, none⟩ = false := by simp [World.frozen?, HB.out]
                clear HE2 h2 h1 h32
                go_wp2_with (go_at_call 102; refine (flatRight_is hr _).mono ?_; rintro e w1 ⟨rfl, hu1⟩; have HU1 := As.mk hu1; obtain ⟨oc, of⟩ := hu1.olds; have hz1 := hu1.size; clear hu1)
                go_roundg g1
                case measure => omega
                case rel => exact ⟨k + 1, n + 1, by have := HK.out; omega, by go_num, by first | rfl | go_num | (congr 1; omega), by omega, ⟨FcRel.set HP hsz hcs HB (Upd.trans (Upd.alloc1 _ _ _) HU1.out (fun _ _ h => h)) HV.out⟩⟩
            · have e1 : (x.k == 1) = false := by simp [h1]
              have HV := As.mk (show fcGo (k + 1) n (l.drop (k + 1)) = flatCheck l by rw [← HE2.out]; simp [fcGo, hr, h1, h2])
              clear HE2 h2 h1
              go_wp2_with (go_at_call 102; refine (flatRight_is hr _).mono ?_; rintro e w1 ⟨rfl, hu1⟩; have HU1 := As.mk hu1; obtain ⟨oc, of⟩ := hu1.olds; have hz1 := hu1.size; clear hu1)
              go_roundg g1
              case measure => omega
              case rel => exact ⟨k + 1, n, by have := HK.out; omega, by go_num, rfl, by omega, ⟨FcRel.upd HP hsz hcs HB (Upd.trans (Upd.alloc1 _ _ _) HU1.out (fun _ _ h => h)) HV.out⟩⟩
      · have hkl : k = l.length := by omega
        subst hkl
        rw [List.drop_length] at heq
        have HE2 := As.mk heq
        have HP := As.mk hp
        clear heq hp hblk HC HE
        by_cases h0 : n = 0
        · have HV := As.mk (show ((l.length : Int), (0 : Int)) = flatCheck l by rw [← HE2.out]; simp [fcGo, h0])
          subst h0
          go_wp2
          go_ret2
          rw [← HV.out]
          exact ⟨rfl, HP.out⟩
        · have HV := As.mk (show ((l.length : Int), (3 : Int)) = flatCheck l by rw [← HE2.out]; simp [fcGo, h0])
          have h1 : ((n : Int) > 0) := by omega
          go_wp2
          go_ret2
          rw [← HV.out]
          exact ⟨rfl, HP.out⟩
end Go.Proofs.YtofjodppljnlaaaGreatDoor
namespace Go.Proofs.YtofjodppljnlaaaGreatDoor
open Go.RowKit
set_option linter.unusedVariables false
set_option linter.unusedSimpArgs false
theorem run_append_nothing {P : Program} {w : World} {t ty e : TypeId} {size n c : Nat} {v : Value} {xs : List Value} (hown : w.ownsRow 0 e size v n xs) (i : TypeInfo) (ht : P.underlying t = some (.slice e)) (hi : P.info? e = some i) :
    (Builtin.append_ #[t, t] ty #[v, .slice none 0 c]).run P w = .ok v w := by
  rcases hown.2 with ⟨rfl, rfl⟩ | ⟨g, cap, cur, rfl, _, hg, hle, _⟩
  · simp [Builtin.append_, run_underlying ht, sizeOf, typeInfo, hi, Builtin.lenOf, Builtin.firstCells, loadCells, loadCellsFrom]
  · simp [Builtin.append_, run_underlying ht, sizeOf, typeInfo, hi, Builtin.lenOf, Builtin.firstCells, loadCells, loadCellsFrom, hle]
    rfl
theorem Rp.row_news {α : Type} {d : Rp α} {w : World} {F : Nat → Prop} {b o : Nat} {ys : List α} (hc : ∀ j x, ys[j]? = some x → ∃ cs, d.rep w F x cs ∧ ∀ i u, cs[i]? = some u → w.cell? ⟨b, o + j * d.sz + i, none⟩ = some u) :
    ∃ news, Reps (d.rep w F) d.sz ys news ∧ (∀ j u, news[j]? = some u → w.cell? ⟨b, o + j, none⟩ = some u) ∧ ∀ u ∈ news, u.oneCell' = true := by
  have H : ∀ n, n ≤ ys.length → ∃ news, Reps (d.rep w F) d.sz (ys.take n) news ∧ (∀ j u, news[j]? = some u → w.cell? ⟨b, o + j, none⟩ = some u) ∧ ∀ u ∈ news, u.oneCell' = true := by
    intro n
    induction n with
    | zero => intro _; exact ⟨[], by simpa using Reps.nil _ _, by simp, by simp⟩
    | succ n ih =>
      intro hn
      obtain ⟨news, h1, h2, h3⟩ := ih (by omega)
      obtain ⟨x, hx⟩ : ∃ x, ys[n]? = some x := ⟨_, List.getElem?_eq_getElem (by omega)⟩
      obtain ⟨cs, hr, hcs⟩ := hc n x hx
      have hl : news.length = n * d.sz := by rw [h1.1, List.length_take, Nat.min_eq_left (by omega)]
      refine ⟨news ++ cs, ?_, fun j u hu => ?_, fun u hu => ?_⟩
      · rw [List.take_add_one, hx]
        exact Reps.append h1 (Reps.single hr (d.len hr))
      · rcases Nat.lt_or_ge j news.length with hj | hj
        · rw [List.getElem?_append_left hj] at hu
          exact h2 j u hu
        · rw [List.getElem?_append_right hj] at hu
          have := hcs _ u hu
          rw [hl] at this
          rw [show o + j = o + n * d.sz + (j - n * d.sz) by omega]
          exact this
      · rcases List.mem_append.1 hu with hu | hu
        · exact h3 u hu
        · exact d.one hr u hu
  have := H ys.length (Nat.le_refl _)
  rwa [List.take_length] at this
theorem Rp.own_appended2 {α : Type} {d : Rp α} {e : Nat} {w w1 : World} {F Fz : Nat → Prop} {v v1 : Value} {xs ys : List α} {news inner : List Value}
    (hr : Reps (d.rep w (fun k => F k ∧ some k ≠ v.ownBlock)) d.sz xs inner) (hy : Reps (d.rep w Fz) d.sz ys news) (hFz : ∀ k, Fz k → k < w.heap.size → some k ≠ v.ownBlock)
    (hown : w1.ownsRow 0 e d.sz v1 (xs.length + ys.length) (inner ++ news)) (hg : w.grownBy w1 v.ownBlock)
    (hat : v1.ownBlock = v.ownBlock ∨ ∃ b, v1.ownBlock = some b ∧ w.heap.size ≤ b) : d.own e w1 (fun k => (F k ∧ some k ≠ v.ownBlock) ∨ Fz k ∨ v1.ownBlock = some k) v1 (xs ++ ys) := by
  have hne : ∀ k, some k ≠ v.ownBlock → k < w.heap.size → some k ≠ v1.ownBlock := by
    intro k hk hl
    rcases hat with hat | ⟨b, hb, hle⟩
    · rw [hat]; exact hk
    · rw [hb]
      intro he
      injection he with he
      omega
  refine ⟨inner ++ news, by rw [List.length_append]; exact hown, fun k hk => .inr (.inr hk), Reps.append (hr.imp fun x c hc => d.move (fun k hk hl => ?_) hc) (hy.imp fun x c hc => d.move (fun k hk hl => ?_) hc)⟩
  · exact ⟨⟨.inl hk, hne k hk.2 hl⟩, Nat.lt_of_lt_of_le hl hg.size, hg.block k hl hk.2⟩
  · have h2 := hFz k hk hl
    exact ⟨⟨.inr (.inl hk), hne k h2 hl⟩, Nat.lt_of_lt_of_le hl hg.size, hg.block k hl h2⟩
/-- A row that is read; where its own block lies is not asked. -/
def Rp.row' {α : Type} (d : Rp α) (w : World) (F : Nat → Prop) (A : Option Addr) (xs : List α) : Prop :=
  xs = [] ∨ ∃ b o, A = some ⟨b, o, none⟩ ∧ ∀ j x, xs[j]? = some x → ∃ cs, d.rep w F x cs ∧ ∀ i u, cs[i]? = some u → w.cell? ⟨b, o + j * d.sz + i, none⟩ = some u
theorem Rp.row'_of {α : Type} {d : Rp α} {w : World} {F G : Nat → Prop} {A : Option Addr} {xs : List α} (h : d.row w F A xs) (hrep : ∀ x cs, d.rep w F x cs → d.rep w G x cs) : d.row' w G A xs := by
  rcases h with h | ⟨b, o, hA, _, _, hc⟩
  · exact .inl h
  · refine .inr ⟨b, o, hA, fun j x hx => ?_⟩
    obtain ⟨cs, h1, h2⟩ := hc j x hx
    exact ⟨cs, hrep x cs h1, h2⟩
/-- One element, laid in a block of its own. -/
theorem Rp.row'_one {α : Type} {d : Rp α} {w : World} {F : Nat → Prop} {x : α} {cs : List Value} (hr : d.rep w F x cs) {b : Nat} {e : TypeId} {fr : Nat × Nat} (hb : w.heap[b]? = some (.cells cs.toArray e fr)) : d.row' w F (some ⟨b, 0, none⟩) [x] := by
  refine .inr ⟨b, 0, rfl, fun j y hy => ?_⟩
  match j, hy with
  | 0, hy =>
    simp at hy
    subst hy
    refine ⟨cs, hr, fun i u hu => ?_⟩
    unfold World.cell?
    simp only [hb]
    simpa using hu
  | j + 1, hy => simp at hy
/-- What 'append(v, x...)' leaves. -/
theorem Rp.run_append_row {α : Type} (d : Rp α) {P : Program} {e : Nat} {w : World} {F Fz : Nat → Prop} {v : Value} {xs ys : List α} {A : Option Addr} {c : Nat} (HO : d.own e w F v xs) (HY : d.row' w Fz A ys)
    (hFy : ∀ k, Fz k → k < w.heap.size → some k ≠ v.ownBlock) (t ty : TypeId) (z : Value) (bytes : Nat)
    (ht : P.underlying t = some (.slice e)) (hinfo : (P.info? e).map (fun i => (i.zero, i.size, i.bytes)) = some (some z, d.sz, bytes)) (hz : z.cells.size = d.sz) (hs0 : 0 < d.sz) (hb0 : 0 < bytes) (hl : (xs.length + ys.length) * bytes ≤ 140737488355328) :
    ∃ v1 w1, (Builtin.append_ #[t, t] ty #[v, .slice A ys.length c]).run P w = .ok v1 w1 ∧ d.own e w1 (fun k => (F k ∧ some k ≠ v.ownBlock) ∨ Fz k ∨ v1.ownBlock = some k) v1 (xs ++ ys) ∧ Upd (fun k => v.ownBlock = some k) w w1 ∧ (v1.ownBlock = v.ownBlock ∨ ∃ b, v1.ownBlock = some b ∧ w.heap.size ≤ b) := by
  obtain ⟨inner, hown, hF, hr⟩ := HO
  obtain ⟨i0, hi, hzz⟩ := Option.map_eq_some_iff.1 hinfo
  simp only [Prod.mk.injEq] at hzz
  obtain ⟨hz0, hz1, hz2⟩ := hzz
  have hlen : xs.length + ys.length ≤ 140737488355328 := Nat.le_trans (Nat.le_mul_of_pos_right _ hb0) hl
  have main : ∀ (ad : Addr) (news : List Value), Reps (d.rep w Fz) d.sz ys news → (∀ j u, news[j]? = some u → w.cell? (ad.add j) = some u) → (∀ u ∈ news, u.oneCell' = true) →
      ∃ v1 w1, (Builtin.append_ #[t, t] ty #[v, .slice (some ad) ys.length c]).run P w = .ok v1 w1 ∧ d.own e w1 (fun k => (F k ∧ some k ≠ v.ownBlock) ∨ Fz k ∨ v1.ownBlock = some k) v1 (xs ++ ys) ∧ Upd (fun k => v.ownBlock = some k) w w1 ∧ (v1.ownBlock = v.ownBlock ∨ ∃ b, v1.ownBlock = some b ∧ w.heap.size ≤ b) := by
    intro ad news hreps hnews h1
    obtain ⟨v1, w1, hrun, hown1, hg, _, hat⟩ := run_append_own_at (P := P) w 0 t ty e i0 z d.sz bytes ht hi hz0 hz1 hz2 hz hs0 v xs.length inner hown ad ys.length c news hreps.1 hnews h1 (by simp only [maxLen]; omega) hl (by omega)
    have hat' : v1.ownBlock = v.ownBlock ∨ ∃ b, v1.ownBlock = some b ∧ w.heap.size ≤ b := by
      rcases hat with hat | hat
      · exact .inl hat
      · exact .inr ⟨_, hat, Nat.le_refl _⟩
    exact ⟨v1, w1, hrun, Rp.own_appended2 hr hreps hFy hown1 hg hat', Upd.grown1 hg (fun k hk => hk), hat'⟩
  rcases HY with rfl | ⟨b, o, rfl, hc⟩
  · cases A with
    | none =>
      refine ⟨v, w, run_append_nothing hown i0 ht hi, ?_, Upd.refl _ _, .inl rfl⟩
      rw [List.append_nil]
      exact ⟨inner, hown, fun k hk => .inr (.inr hk), hr.imp fun x c hc => d.move (fun k hk hl => ⟨⟨.inl hk, hk.2⟩, hl, rfl⟩) hc⟩
    | some ad => exact main ad [] (Reps.nil _ _) (by simp) (by simp)
  · obtain ⟨news, h1, h2, h3⟩ := Rp.row_news hc
    refine main ⟨b, o, none⟩ news h1 (fun j u hu => ?_) h3
    have hadd : (⟨b, o, none⟩ : Addr).add j = ⟨b, o + j, none⟩ := by unfold Addr.add; split <;> simp_all
    rw [hadd]
    exact h2 j u hu
section
variable {P : Program} {ops : Array Oper} {rest : List Oper} {o : Oper} {a : Act} {Q : Exit → Act → World → Prop} {K : Act → World → Prop} {E : Prop}
theorem Rp.wp_append_row {α : Type} (d : Rp α) {e : Nat} {w : World} {F Fz : Nat → Prop} {v : Value} {xs ys : List α} {A : Option Addr} {c : Nat} (HO : d.own e w F v xs) (HY : d.row' w Fz A ys)
    (hFy : ∀ k, Fz k → k < w.heap.size → some k ≠ v.ownBlock)
    (s x : Operand) (t : TypeId) (z : Value) (bytes : Nat) (ho : o.op = .call { callee := .builtin .append, args := #[s, x], argTypes := #[t, t] })
    (ht : P.underlying t = some (.slice e)) (hinfo : (P.info? e).map (fun i => (i.zero, i.size, i.bytes)) = some (some z, d.sz, bytes)) (hz : z.cells.size = d.sz) (hs0 : 0 < d.sz) (hb0 : 0 < bytes)
    (hs : a.eval s = v) (hx : a.eval x = .slice A ys.length c) (hl : (xs.length + ys.length) * bytes ≤ 140737488355328)
    (h : ∀ v1 w1, d.own e w1 (fun k => (F k ∧ some k ≠ v.ownBlock) ∨ Fz k ∨ v1.ownBlock = some k) v1 (xs ++ ys) → Upd (fun k => v.ownBlock = some k) w w1 → (v1.ownBlock = v.ownBlock ∨ ∃ b, v1.ownBlock = some b ∧ w.heap.size ≤ b) → K (a.put o.dst v1) w1) : o.wp P a w K Q := by
  obtain ⟨v1, w1, hr, h2, h3, h4⟩ := Rp.run_append_row d (P := P) (c := c) HO HY hFy t o.type z bytes ht hinfo hz hs0 hb0 hl
  unfold Oper.wp execOp
  simp only [ho, resolve, invoke, builtin, Sem.run_bind, Sem.run_pure, Result.andThen_ok, List.map_toArray, List.map_cons, List.map_nil, hs, hx, hr]
  exact h v1 w1 h2 h3 h4
theorem Rp.append_row {α : Type} (d : Rp α) {e : Nat} {w : World} {F Fz : Nat → Prop} {v : Value} {xs ys : List α} {A : Option Addr} {c : Nat} (HO : d.own e w F v xs) (HY : d.row' w Fz A ys)
    (hFy : ∀ k, Fz k → k < w.heap.size → some k ≠ v.ownBlock) (hgd : o.guard = none)
    (s x : Operand) (t : TypeId) (z : Value) (bytes : Nat) (ho : o.op = .call { callee := .builtin .append, args := #[s, x], argTypes := #[t, t] })
    (ht : P.underlying t = some (.slice e)) (hinfo : (P.info? e).map (fun i => (i.zero, i.size, i.bytes)) = some (some z, d.sz, bytes)) (hz : z.cells.size = d.sz) (hs0 : 0 < d.sz) (hb0 : 0 < bytes)
    (hs : a.eval s = v) (hx : a.eval x = .slice A ys.length c) (hl : (xs.length + ys.length) * bytes ≤ 140737488355328)
    (h : ∀ v1 w1, d.own e w1 (fun k => (F k ∧ some k ≠ v.ownBlock) ∨ Fz k ∨ v1.ownBlock = some k) v1 (xs ++ ys) → Upd (fun k => v.ownBlock = some k) w w1 → (v1.ownBlock = v.ownBlock ∨ ∃ b, v1.ownBlock = some b ∧ w.heap.size ≤ b) → wpList P ops Q rest (a.put o.dst v1) w1) : wpList P ops Q (o :: rest) a w :=
  wpList_plain hgd fun _ hK => Rp.wp_append_row d HO HY hFy s x t z bytes ho ht hinfo hz hs0 hb0 hs hx hl fun v1 w1 h2 h3 h4 => hK _ _ (h v1 w1 h2 h3 h4)
theorem Rp.step_append_row {α : Type} (d : Rp α) {e : Nat} {w : World} {F Fz : Nat → Prop} {v : Value} {xs ys : List α} {A : Option Addr} {c : Nat} (HO : d.own e w F v xs) (HY : d.row' w Fz A ys)
    (hFy : ∀ k, Fz k → k < w.heap.size → some k ≠ v.ownBlock) (hgd : o.guard = none)
    (s x : Operand) (t : TypeId) (z : Value) (bytes : Nat) (ho : o.op = .call { callee := .builtin .append, args := #[s, x], argTypes := #[t, t] })
    (ht : P.underlying t = some (.slice e)) (hinfo : (P.info? e).map (fun i => (i.zero, i.size, i.bytes)) = some (some z, d.sz, bytes)) (hz : z.cells.size = d.sz) (hs0 : 0 < d.sz) (hb0 : 0 < bytes)
    (hs : a.eval s = v) (hx : a.eval x = .slice A ys.length c) (hl : (xs.length + ys.length) * bytes ≤ 140737488355328)
    (h : ∀ v1 w1, d.own e w1 (fun k => (F k ∧ some k ≠ v.ownBlock) ∨ Fz k ∨ v1.ownBlock = some k) v1 (xs ++ ys) → Upd (fun k => v.ownBlock = some k) w w1 → (v1.ownBlock = v.ownBlock ∨ ∃ b, v1.ownBlock = some b ∧ w.heap.size ≤ b) → K (a.put o.dst v1) w1) :
    if Region.wanted o (yielded ops a.tmps) = true then Oper.wp P o a w K Q else E := by
  have hw : Region.wanted o (yielded ops a.tmps) = true := by simp [Region.wanted, hgd]
  rw [if_pos hw]
  exact Rp.wp_append_row d HO HY hFy s x t z bytes ho ht hinfo hz hs0 hb0 hs hx hl h
end
end Go.Proofs.YtofjodppljnlaaaGreatDoor
namespace Go.Proofs.YtofjodppljnlaaaGreatDoor
open Go
section
variable {P : Program} {ops : Array Oper} {Q : Exit → Act → World → Prop} {md : Region.Mode} {S : World → Prop} {L : Nat}
def wpAnyT (P : Program) (md : Region.Mode) (ops : Array Oper) (Q : Exit → Act → World → Prop) (S : World → Prop) (L : Nat) : Nat → Array Bool → Act → World → Prop
  | 0, listed, a, w => Region.ready md ops listed = [] ∧ Q .normal a w
  | fuel + 1, listed, a, w =>
    (Region.ready md ops listed = [] → Q .normal a w) ∧
    ∀ i ∈ Region.ready md ops listed, wpOp P ops Q i (fun a' w' => (i ≠ L → S w') ∧ wpAnyT P md ops Q S L fuel (listed.setIfInBounds i true) a' w') a w
theorem wpAny_of_T : ∀ (fuel : Nat) (listed : Array Bool) (a : Act) (w : World), wpAnyT P md ops Q S L fuel listed a w → wpAny P md ops Q fuel listed a w
  | 0, _, _, _, h => h
  | fuel + 1, _, _, _, h => ⟨h.1, fun i hi => wpOp_mono (fun a' w' h' => wpAny_of_T fuel _ a' w' h'.2) (h.2 i hi)⟩
theorem wpAnyT_first {i : Nat} {oi : Oper} {v : Value} (hi : ops[i]? = some oi) (hsel : ∀ (j : Nat) (o : Oper) cs b, ops[j]? = some o → o.op ≠ .select cs b)
    (hQ : ∀ c a w, Q (.panic c) (a.put oi.dst v) w → Q (.panic c) a w) (hL : ∃ oL, ops[L]? = some oL ∧ ∃ e ∈ oL.after, Region.binds md e = true ∧ e.on = i) :
    ∀ (fuel : Nat) (listed : Array Bool) (a : Act) (w : World),
      (∀ j oj, ops[j]? = some oj → j ≠ i → listed.getD j true = false → (∀ e ∈ oj.after, Region.binds md e = true → e.on ≠ i) → oi.apart ops oj = true) →
      i ∈ Region.ready md ops listed → YieldsIf P ops S oi v a → S w →
      wpAnyT P md ops Q S L fuel (listed.setIfInBounds i true) (a.put oi.dst v) w → wpAnyT P md ops Q S L (fuel + 1) listed a w := by
  have notL : ∀ (listed : Array Bool) (j : Nat), i ∈ Region.ready md ops listed → j ∈ Region.ready md ops listed → j ≠ L := by
    rintro listed j hr hj rfl
    obtain ⟨oL, hoL, e, he, hb, heq⟩ := hL
    obtain ⟨_, oj, hoj, hall⟩ := mem_ready.1 hj
    rw [hoL] at hoj
    cases hoj
    have h1 := hall e he hb
    have h0 := (mem_ready.1 hr).1
    rw [heq] at h1
    rcases Nat.lt_or_ge i listed.size with h' | h'
    · simp [h'] at h0 h1; rw [h0] at h1; cases h1
    · simp [Array.getElem?_eq_none h'] at h1
  intro fuel
  induction fuel with
  | zero =>
    intro listed a w _ hr hy hS H
    refine ⟨fun h => (by rw [h] at hr; cases hr), fun j hj => ?_⟩
    by_cases hji : j = i
    · subst hji; exact hy.wpOp hi hS ⟨fun _ => hS, H⟩
    · have := ready_mono hj hji
      rw [H.1] at this
      cases this
  | succ fuel ih =>
    intro listed a w hfree hr hy hS H
    refine ⟨fun h => (by rw [h] at hr; cases hr), fun j hj => ?_⟩
    by_cases hji : j = i
    · subst hji; exact hy.wpOp hi hS ⟨fun _ => hS, H⟩
    · have hjL := notL listed j hr hj
      have h1 := H.2 j (ready_mono hj hji)
      obtain ⟨hjun, oj, hoj, hall⟩ := mem_ready.1 hj
      have hnot : ∀ e ∈ oj.after, Region.binds md e = true → e.on ≠ i := fun e he hb heq => by
        have h1 := hall e he hb
        have h0 := (mem_ready.1 hr).1
        rw [heq] at h1
        rcases Nat.lt_or_ge i listed.size with h' | h'
        · simp [h'] at h0 h1; rw [h0] at h1; cases h1
        · simp [Array.getElem?_eq_none h'] at h1
      have h2 := wpOp_putIf hoj (hfree j oj hoj hji hjun hnot) (fun cs b => hsel i oi cs b hi) (fun cs b => hsel j oj cs b hoj) hQ hy h1
      have hfree' : ∀ k ok, ops[k]? = some ok → k ≠ i → (listed.setIfInBounds j true).getD k true = false →
          (∀ e ∈ ok.after, Region.binds md e = true → e.on ≠ i) → oi.apart ops ok = true := fun k ok hk hki hun hno => by
        refine hfree k ok hk hki ?_ hno
        by_cases hjk : j = k
        · subst hjk; exact hjun
        · rw [getD_set_ne true hjk] at hun; exact hun
      refine wpOp_mono (fun a' w' h3 => ⟨h3.2.1, ih (listed.setIfInBounds j true) a' w' hfree' (ready_mono hr (Ne.symm hji)) h3.1 (h3.2.1 hjL) ?_⟩) h2
      rw [Array.setIfInBounds_comm _ _ hji]
      exact h3.2.2
def waitsOn (md : Region.Mode) (ops : Array Oper) (L i : Nat) : Bool := match ops[L]? with
  | some o => o.after.any fun e => Region.binds md e && e.on == i
  | none => false
theorem waitsOn_spec {i : Nat} (h : waitsOn md ops L i = true) : ∃ oL, ops[L]? = some oL ∧ ∃ e ∈ oL.after, Region.binds md e = true ∧ e.on = i := by
  unfold waitsOn at h
  split at h
  · rename_i o ho
    obtain ⟨e, he, hb⟩ := Array.any_eq_true'.1 h
    simp only [Bool.and_eq_true, beq_iff_eq] at hb
    exact ⟨o, ho, e, he, hb.1, hb.2⟩
  · cases h
theorem wpAnyT_take {i : Nat} {oi : Oper} {v : Value} {fuel : Nat} {listed : Array Bool} {a : Act} {w : World} (hi : ops[i]? = some oi)
    (hs : Region.noSelect ops = true) (hf : Region.free md ops listed i = true) (hr : (Region.ready md ops listed).contains i = true) (hL : waitsOn md ops L i = true)
    (hQ : ∀ c a w, Q (.panic c) (a.put oi.dst v) w → Q (.panic c) a w) (hy : YieldsIf P ops S oi v a) (hS : S w)
    (h : wpAnyT P md ops Q S L fuel (listed.setIfInBounds i true) (a.put oi.dst v) w) : wpAnyT P md ops Q S L (fuel + 1) listed a w :=
  wpAnyT_first hi (Region.noSelect_spec hs) hQ (waitsOn_spec hL) fuel listed a w (Region.free_spec hi hf) (by simpa using hr) hy hS h
theorem wpAnyT_one {i : Nat} {o : Oper} {fuel : Nat} {listed : Array Bool} {a : Act} {w : World} (hr : Region.ready md ops listed = [i]) (ho : ops[i]? = some o)
    (h : ∀ K' : Act → World → Prop, Shut (∀ a w, (i ≠ L → S w) → ((i ≠ L → S w) → wpAnyT P md ops Q S L fuel (listed.setIfInBounds i true) a w) → K' a w) → if Region.wanted o (yielded ops a.tmps) = true then Oper.wp P o a w K' Q else K' (a.put o.dst undef) w) :
    wpAnyT P md ops Q S L (fuel + 1) listed a w := by
  refine ⟨fun h => (by rw [hr] at h; cases h), fun j hj => ?_⟩
  rw [hr] at hj
  obtain rfl := List.mem_singleton.1 hj
  exact wpOp_step ho (fun K' hK => h K' (fun a w hS hW => hK a w ⟨hS, hW hS⟩))
theorem wpAnyT_done {listed : Array Bool} {a : Act} {w : World} (hr : Region.ready md ops listed = []) (h : Q .normal a w) : ∀ fuel, wpAnyT P md ops Q S L fuel listed a w
  | 0 => ⟨hr, h⟩
  | _ + 1 => ⟨fun _ => h, by rw [hr]; simp⟩
theorem wp_region_T (S : World → Prop) (L : Nat) {id : Nat} {a : Act} {w : World} (hm : P.follows .mixedOrders = true) (hS : S w.drew)
    (h : S w.drew → wpAnyT P .any ops Q S L ops.size (Array.replicate ops.size false) a w.drew) : (Code.region id ops true).wp P Q a w :=
  wp_region_any hm (wpAny_of_T _ _ _ _ (h hS))
theorem opAt {l : List Oper} {i : Nat} {o : Oper} (h : l[i]? = some o) : (l.toArray)[i]? = some o := by simpa using h
def okH (md : Region.Mode) (ops : Array Oper) (listed : Array Bool) (i : Nat) : Bool := Region.noSelect ops && (Region.free md ops listed i && (Region.ready md ops listed).contains i)
theorem okH_iff {listed : Array Bool} {i : Nat} (h : okH md ops listed i = true) : Region.noSelect ops = true ∧ Region.free md ops listed i = true ∧ (Region.ready md ops listed).contains i = true := by
  unfold okH at h
  rw [Bool.and_eq_true, Bool.and_eq_true] at h
  exact h
theorem takeH (i : Nat) {oi : Oper} {v : Value} {fuel : Nat} {listed : Array Bool} {a : Act} {w : World} (hi : ops[i]? = some oi) (hc : okH md ops listed i = true)
    (hQ : ∀ c a w, Q (.panic c) (a.put oi.dst v) w → Q (.panic c) a w) (h1 : Region.wanted oi (yielded ops a.tmps) = true) (h2 : ∀ w, S w → (execOp a.eval oi).run P w = .ok (.value v) w) (hS : S w)
    (h : wpAnyH P md ops Q S fuel (listed.setIfInBounds i true) (a.put oi.dst v) w) : wpAnyH P md ops Q S (fuel + 1) listed a w :=
  wpAnyH_take hi (okH_iff hc).1 (okH_iff hc).2.1 (okH_iff hc).2.2 hQ (Or.inl ⟨h1, h2⟩) hS h
theorem takeT (i : Nat) {oi : Oper} {v : Value} {fuel : Nat} {listed : Array Bool} {a : Act} {w : World} (hi : ops[i]? = some oi) (hc : (okH md ops listed i && waitsOn md ops L i) = true)
    (hQ : ∀ c a w, Q (.panic c) (a.put oi.dst v) w → Q (.panic c) a w) (h1 : Region.wanted oi (yielded ops a.tmps) = true) (h2 : ∀ w, S w → (execOp a.eval oi).run P w = .ok (.value v) w) (hS : S w)
    (h : wpAnyT P md ops Q S L fuel (listed.setIfInBounds i true) (a.put oi.dst v) w) : wpAnyT P md ops Q S L (fuel + 1) listed a w := by
  rw [Bool.and_eq_true] at hc
  exact wpAnyT_take hi (okH_iff hc.1).1 (okH_iff hc.1).2.1 (okH_iff hc.1).2.2 hc.2 hQ (Or.inl ⟨h1, h2⟩) hS h
end
end Go.Proofs.YtofjodppljnlaaaGreatDoor
namespace Go.Proofs.YtofjodppljnlaaaGreatDoor
open Go
section
variable {P : Program} {ops : Array Oper} {Q : Exit → Act → World → Prop} {md : Region.Mode} {S : World → Prop} {L : Nat}
theorem zH (i : Nat) {oi : Oper} {v : Value} {fuel : Nat} {listed : Array Bool} {a : Act} {w : World}
    (h : wpAnyH P md ops Q S fuel (listed.setIfInBounds i true) (a.put oi.dst v) w) (hi : ops[i]? = some oi := by exact opAt rfl) (hc : okH md ops listed i = true := by kernel_rfl)
    (hQ : ∀ c a w, Q (.panic c) (a.put oi.dst v) w → Q (.panic c) a w := by exact fun _ _ _ h => h) (h1 : Region.wanted oi (yielded ops a.tmps) = true := by rfl)
    (h2 : ∀ w, S w → (execOp a.eval oi).run P w = .ok (.value v) w := by intro w hSw; (try dsimp only at hSw); go_simp; try with_reducible rfl) (hS : S w := by assumption) : wpAnyH P md ops Q S (fuel + 1) listed a w :=
  takeH i hi hc hQ h1 h2 hS h
theorem sH (i : Nat) {oi : Oper} {fuel : Nat} {listed : Array Bool} {a : Act} {w : World}
    (h : wpAnyH P md ops Q S fuel (listed.setIfInBounds i true) (a.put oi.dst undef) w) (hi : ops[i]? = some oi := by exact opAt rfl) (hc : okH md ops listed i = true := by kernel_rfl)
    (hQ : ∀ c a w, Q (.panic c) (a.put oi.dst undef) w → Q (.panic c) a w := by exact fun _ _ _ h => h) (h1 : Region.wanted oi (yielded ops a.tmps) = false := by rfl)
    (hS : S w := by assumption) : wpAnyH P md ops Q S (fuel + 1) listed a w :=
  wpAnyH_take hi (okH_iff hc).1 (okH_iff hc).2.1 (okH_iff hc).2.2 hQ (Or.inr ⟨h1, rfl⟩) hS h
theorem zT (i : Nat) {oi : Oper} {v : Value} {fuel : Nat} {listed : Array Bool} {a : Act} {w : World}
    (h : wpAnyT P md ops Q S L fuel (listed.setIfInBounds i true) (a.put oi.dst v) w) (hi : ops[i]? = some oi := by exact opAt rfl) (hc : (okH md ops listed i && waitsOn md ops L i) = true := by kernel_rfl)
    (hQ : ∀ c a w, Q (.panic c) (a.put oi.dst v) w → Q (.panic c) a w := by exact fun _ _ _ h => h) (h1 : Region.wanted oi (yielded ops a.tmps) = true := by rfl)
    (h2 : ∀ w, S w → (execOp a.eval oi).run P w = .ok (.value v) w := by intro w hSw; (try dsimp only at hSw); go_simp; try with_reducible rfl) (hS : S w := by assumption) : wpAnyT P md ops Q S L (fuel + 1) listed a w :=
  takeT i hi hc hQ h1 h2 hS h
theorem oT (i : Nat) {o : Oper} {fuel : Nat} {listed : Array Bool} {a : Act} {w : World}
    (h : ∀ K' : Act → World → Prop, Shut (∀ a w, (i ≠ L → S w) → ((i ≠ L → S w) → wpAnyT P md ops Q S L fuel (listed.setIfInBounds i true) a w) → K' a w) → if Region.wanted o (yielded ops a.tmps) = true then Oper.wp P o a w K' Q else K' (a.put o.dst undef) w)
    (hr : Region.ready md ops listed = [i] := by kernel_rfl) (ho : ops[i]? = some o := by exact opAt rfl) : wpAnyT P md ops Q S L (fuel + 1) listed a w :=
  wpAnyT_one hr ho h
end
end Go.Proofs.YtofjodppljnlaaaGreatDoor
namespace Go.Proofs.YtofjodppljnlaaaGreatDoor
open Go.RowKit
set_option linter.unusedVariables false
set_option linter.unusedSimpArgs false
inductive Ex where
  | mk (k : Int) (name : ByteArray) (l : List Ex)
abbrev Ex.k : Ex → Int | .mk k _ _ => k
abbrev Ex.name : Ex → ByteArray | .mk _ n _ => n
abbrev Ex.l : Ex → List Ex | .mk _ _ l => l
mutual
def Ex.cnt : Ex → Nat | .mk _ _ l => 1 + Ex.cnts l
def Ex.cnts : List Ex → Nat | [] => 0 | x :: r => x.cnt + Ex.cnts r
end
mutual
def Ex.dep : Ex → Nat | .mk _ _ l => 1 + Ex.deps l
def Ex.deps : List Ex → Nat | [] => 0 | x :: r => max x.dep (Ex.deps r)
end
theorem Ex.cnts_sum (l : List Ex) : Ex.cnts l = (l.map Ex.cnt).sum := by
  induction l with
  | nil => rfl
  | cons x r ih => simp [Ex.cnts, ih]
theorem Ex.cnts_append (a b : List Ex) : Ex.cnts (a ++ b) = Ex.cnts a + Ex.cnts b := by simp [Ex.cnts_sum]
theorem Ex.deps_append (a b : List Ex) : Ex.deps (a ++ b) = max (Ex.deps a) (Ex.deps b) := by
  induction a with
  | nil => simp [Ex.deps]
  | cons x r ih => simp [Ex.deps, ih, Nat.max_assoc]
theorem Ex.cnt_mem {x : Ex} {l : List Ex} (h : x ∈ l) : x.cnt ≤ Ex.cnts l := by
  induction l with
  | nil => cases h
  | cons y r ih =>
    simp only [Ex.cnts]
    rcases List.mem_cons.1 h with rfl | h
    · omega
    · have := ih h; omega
theorem Ex.cnts_take (l : List Ex) (k : Nat) : Ex.cnts (l.take k) ≤ Ex.cnts l := by
  have := Ex.cnts_append (l.take k) (l.drop k)
  rw [List.take_append_drop] at this
  omega
theorem Ex.cnts_succ {l : List Ex} {k : Nat} {x : Ex} (hx : l[k]? = some x) : Ex.cnts (l.take (k + 1)) = Ex.cnts (l.take k) + x.cnt := by
  rw [List.take_add_one, hx, Ex.cnts_append]
  simp [Ex.cnts]
theorem Ex.deps_succ {l : List Ex} {k : Nat} {x : Ex} (hx : l[k]? = some x) : Ex.deps (l.take (k + 1)) = max (Ex.deps (l.take k)) x.dep := by
  rw [List.take_add_one, hx, Ex.deps_append]
  simp [Ex.deps]
mutual
theorem Ex.dep_le_cnt : ∀ e : Ex, e.dep ≤ e.cnt
  | .mk k n l => by have := Ex.deps_le_cnts l; simp only [Ex.dep, Ex.cnt]; omega
theorem Ex.deps_le_cnts : ∀ l : List Ex, Ex.deps l ≤ Ex.cnts l
  | [] => by simp [Ex.deps, Ex.cnts]
  | x :: r => by have h1 := Ex.dep_le_cnt x; have h2 := Ex.deps_le_cnts r; simp only [Ex.deps, Ex.cnts]; omega
end
mutual
def Ex.wt : Ex → Nat | .mk _ nm l => 1 + nm.size + Ex.wts l
def Ex.wts : List Ex → Nat | [] => 0 | x :: r => x.wt + Ex.wts r
end
mutual
theorem Ex.cnt_le_wt : ∀ e : Ex, e.cnt ≤ e.wt
  | .mk k n l => by have := Ex.cnts_le_wts l; simp only [Ex.cnt, Ex.wt]; omega
theorem Ex.cnts_le_wts : ∀ l : List Ex, Ex.cnts l ≤ Ex.wts l
  | [] => by simp [Ex.cnts, Ex.wts]
  | x :: r => by have h1 := Ex.cnt_le_wt x; have h2 := Ex.cnts_le_wts r; simp only [Ex.cnts, Ex.wts]; omega
end
theorem Ex.wt_mem {x : Ex} {l : List Ex} (h : x ∈ l) : x.wt ≤ Ex.wts l := by
  induction l with
  | nil => cases h
  | cons y r ih =>
    simp only [Ex.wts]
    rcases List.mem_cons.1 h with rfl | h
    · omega
    · have := ih h; omega
theorem Ex.wts_len (l : List Ex) : l.length ≤ Ex.wts l := by
  induction l with
  | nil => simp
  | cons x r ih => cases x; simp only [Ex.wts, Ex.wt, List.length_cons]; omega
theorem Ex.wt_pos (e : Ex) : 1 ≤ e.wt := by cases e; simp [Ex.wt]; omega
theorem Ex.cnt_pos (e : Ex) : 1 ≤ e.cnt := by cases e; simp [Ex.cnt]; 
/-- How an expression lies: its three cells. -/
inductive ExRep (w : World) (F : Nat → Prop) : Ex → List Value → Prop
  | mk (k : Int) (nm : ByteArray) (l : List Ex) (A : Option Addr) (c : Nat) (css : Nat → List Value) (hle : l.length ≤ c) (hr : ∀ j x, l[j]? = some x → ExRep w F x (css j))
      (hp : l = [] ∨ ∃ b o, A = some ⟨b, o, none⟩ ∧ F b ∧ b < w.heap.size ∧ ∀ j x, l[j]? = some x → ∀ i u, (css j)[i]? = some u → w.cell? ⟨b, o + j * 3 + i, none⟩ = some u) :
      ExRep w F (.mk k nm l) [.int .i64 k, .string nm, .slice A l.length c]
theorem ExRep.move {w w1 : World} {F G : Nat → Prop} {e : Ex} {cs : List Value} (hm : ∀ k, F k → k < w.heap.size → G k ∧ k < w1.heap.size ∧ w1.heap[k]? = w.heap[k]?) (h : ExRep w F e cs) : ExRep w1 G e cs := by
  induction h with
  | mk k nm l A c css hle hr hp ih =>
    refine .mk k nm l A c css hle ih ?_
    rcases hp with hp | ⟨b, o, hA, hF, hb, hc⟩
    · exact .inl hp
    · obtain ⟨hG, hb1, he⟩ := hm b hF hb
      refine .inr ⟨b, o, hA, hG, hb1, fun j x hx i u hu => ?_⟩
      rw [← hc j x hx i u hu]
      simp [World.cell?, he]
def exR : Rp Ex where
  sz := 3
  rep := ExRep
  len := fun h => by cases h; rfl
  one := fun h u hu => by
    cases h
    simp at hu
    rcases hu with rfl | rfl | rfl <;> rfl
  move := ExRep.move
/-- Its parts. -/
theorem ExRep.parts {w : World} {F : Nat → Prop} {e : Ex} {cs : List Value} (h : ExRep w F e cs) : ∃ A c, cs = [.int .i64 e.k, .string e.name, .slice A e.l.length c] ∧ e.l.length ≤ c ∧ exR.row w F A e.l := by
  cases h with
  | mk k nm l A c css hle hr hp =>
    refine ⟨A, c, rfl, hle, ?_⟩
    rcases hp with hp | ⟨b, o, hA, hF, hb, hc⟩
    · exact .inl hp
    · exact .inr ⟨b, o, hA, hF, hb, fun j x hx => ⟨css j, hr j x hx, hc j x hx⟩⟩
theorem ExRep.of_parts {w : World} {F : Nat → Prop} {k : Int} {nm : ByteArray} {l : List Ex} {A : Option Addr} {c : Nat} (hl : l.length ≤ c) (h : exR.row w F A l) : ExRep w F (.mk k nm l) [.int .i64 k, .string nm, .slice A l.length c] := by
  rcases h with rfl | ⟨b, o, hA, hF, hb, hc⟩
  · exact .mk k nm [] A c (fun _ => []) hl (fun j x hx => by simp at hx) (.inl rfl)
  · have hex : ∃ css : Nat → List Value, ∀ j x, l[j]? = some x → ExRep w F x (css j) ∧ ∀ i u, (css j)[i]? = some u → w.cell? ⟨b, o + j * 3 + i, none⟩ = some u := by
      classical
      refine ⟨fun j => if h : ∃ cs, ∀ x, l[j]? = some x → ExRep w F x cs ∧ ∀ i u, cs[i]? = some u → w.cell? ⟨b, o + j * 3 + i, none⟩ = some u then h.choose else [], fun j x hx => ?_⟩
      have hh : ∃ cs, ∀ x, l[j]? = some x → ExRep w F x cs ∧ ∀ i u, cs[i]? = some u → w.cell? ⟨b, o + j * 3 + i, none⟩ = some u := by
        obtain ⟨cs, h1, h2⟩ := hc j x hx
        refine ⟨cs, fun y hy => ?_⟩
        rw [hx] at hy
        cases hy
        exact ⟨h1, h2⟩
      simp only [dif_pos hh]
      exact hh.choose_spec x hx
    obtain ⟨css, hcss⟩ := hex
    exact .mk k nm l A c css hl (fun j x hx => (hcss j x hx).1) (.inr ⟨b, o, hA, hF, hb, fun j x hx => (hcss j x hx).2⟩)
/-- An expression of a row that is read. -/
theorem ex_at {w : World} {F : Nat → Prop} {A : Option Addr} {xs : List Ex} (h : exR.row w F A xs) {j : Nat} {x : Ex} (hx : xs[j]? = some x) :
    ∃ b o A1 c1, A = some ⟨b, o, none⟩ ∧ F b ∧ b < w.heap.size ∧ w.cell? ⟨b, o + j * 3, none⟩ = some (.int .i64 x.k) ∧ w.cell? ⟨b, o + j * 3 + 1, none⟩ = some (.string x.name) ∧ w.cell? ⟨b, o + j * 3 + 2, none⟩ = some (.slice A1 x.l.length c1) ∧ x.l.length ≤ c1 ∧ exR.row w F A1 x.l := by
  obtain ⟨b, o, cs, hA, hF, hb, hr, hc⟩ := Rp.row_at h hx
  obtain ⟨A1, c1, rfl, hle, hrow⟩ := ExRep.parts hr
  exact ⟨b, o, A1, c1, hA, hF, hb, hc 0 _ rfl, hc 1 _ rfl, hc 2 _ rfl, hle, hrow⟩
abbrev intR : Rp Int := Rp.int .i64
theorem int_at {w : World} {F : Nat → Prop} {A : Option Addr} {xs : List Int} (h : intR.row w F A xs) {j : Nat} {x : Int} (hx : xs[j]? = some x) :
    ∃ b o, A = some ⟨b, o, none⟩ ∧ F b ∧ b < w.heap.size ∧ w.cell? ⟨b, o + j, none⟩ = some (.int .i64 x) := by
  obtain ⟨b, o, cs, hA, hF, hb, hr, hc⟩ := Rp.row_at h hx
  have hr' : cs = [.int .i64 x] := hr
  subst hr'
  have := hc 0 _ rfl
  rw [show (intR.sz) = 1 from rfl, Nat.mul_one] at this
  exact ⟨b, o, hA, hF, hb, this⟩
structure Grp where
  name : ByteArray
  types : List Int
def grpR : Rp Grp where
  sz := 2
  rep := fun w F x cs => ∃ A c, cs = [.string x.name, .slice A x.types.length c] ∧ x.types.length ≤ c ∧ intR.row w F A x.types
  len := by
    rintro w F x cs ⟨A, c, rfl, _⟩
    rfl
  one := by
    rintro w F x cs ⟨A, c, rfl, _⟩ u hu
    simp at hu
    rcases hu with rfl | rfl <;> rfl
  move := by
    rintro w w1 F G x cs hm ⟨A, c, rfl, hl, hr⟩
    exact ⟨A, c, rfl, hl, Rp.row_move hm hr⟩
theorem grp_at {w : World} {F : Nat → Prop} {A : Option Addr} {xs : List Grp} (h : grpR.row w F A xs) {j : Nat} {x : Grp} (hx : xs[j]? = some x) :
    ∃ b o A1 c1, A = some ⟨b, o, none⟩ ∧ F b ∧ b < w.heap.size ∧ w.cell? ⟨b, o + j * 2, none⟩ = some (.string x.name) ∧ w.cell? ⟨b, o + j * 2 + 1, none⟩ = some (.slice A1 x.types.length c1) ∧ x.types.length ≤ c1 ∧ intR.row w F A1 x.types := by
  obtain ⟨b, o, cs, hA, hF, hb, hr, hc⟩ := Rp.row_at h hx
  obtain ⟨A1, c1, rfl, hle, hrow⟩ := hr
  exact ⟨b, o, A1, c1, hA, hF, hb, hc 0 _ rfl, hc 1 _ rfl, hle, hrow⟩
theorem int_info : (Tryz.prog.info? 3).map (fun i => (i.zero, i.size, i.bytes)) = some (some (.int .i64 0), 1, 8) := by kernel_rfl
end Go.Proofs.YtofjodppljnlaaaGreatDoor
namespace Go.Proofs.YtofjodppljnlaaaGreatDoor
open Go.RowKit
set_option linter.unusedVariables false
set_option linter.unusedSimpArgs false
theorem ret_int {k : IntKind} {a b : Int} (h : a = b) : Ending.returned (.int k a) = .returned (.int k b) := by rw [h]
theorem drop_cons' {α : Type} {l : List α} {k : Nat} {x : α} (h : l[k]? = some x) : l.drop k = x :: l.drop (k + 1) := by
  obtain ⟨hk, he⟩ := List.getElem?_eq_some_iff.1 h
  rw [List.drop_eq_getElem_cons hk, he]
abbrev Ex.val (e : Ex) (A : Option Addr) (c : Nat) : Value := .agg #[.int .i64 e.k, .string e.name, .slice A e.l.length c]
theorem size_all (N : Nat) : ∀ (e : Ex), e.cnt ≤ N → N ≤ 1048576 * 4 → ∀ (F : Nat → Prop) (A : Option Addr) (c : Nat) (w : World), exR.row w F A e.l →
    Calls Tryz.prog 186 #[e.val A c] w fun r w' => r = .returned (.tuple #[.int .i64 e.cnt, .int .i64 e.dep]) ∧ Pure w w' := by
  induction N with
  | zero => intro e he; have := e.cnt_pos; omega
  | succ N ih =>
    intro e he hN F A c w hr
    obtain ⟨k0, nm, l⟩ := e
    have HI := As.mk (fun (x : Ex) (hx : x.cnt ≤ N) => ih x hx (by omega))
    have HR := As.mk hr
    have hc0 : Ex.cnts l ≤ N := by simp only [Ex.cnt] at he; omega
    have hd0 : Ex.deps l ≤ Ex.cnts l := Ex.deps_le_cnts l
    have hll : l.length ≤ Ex.cnts l := by
      clear he HI HR hr hc0 hd0
      induction l with
      | nil => simp
      | cons x r ih => have := x.cnt_pos; simp only [Ex.cnts, List.length_cons]; omega
    clear hr he ih
    go_enter Tryz.func186, Tryz.ntmps186
    go_wp2
    go_loopg [4, 5, 13] l.length (fun g n d i wr => ∃ k : Nat, k + g = l.length ∧ i = .int .i64 k ∧ n = .int .i64 ((1 + Ex.cnts (l.take k) : Nat) : Int) ∧ d = .int .i64 ((Ex.deps (l.take k) : Nat) : Int) ∧ As (Pure w wr))
    case atStart => exact ⟨0, by omega, rfl, rfl, rfl, ⟨(Upd.refl _ _).alloc _⟩⟩
    case round =>
      obtain ⟨k, hk, rfl, rfl, rfl, HP⟩ := hrel
      by_cases hlt : k < l.length
      · obtain ⟨x, hx⟩ : ∃ x, l[k]? = some x := ⟨_, List.getElem?_eq_getElem hlt⟩
        obtain ⟨b, o, A1, c1, rfl, hF, hbl, c0, c1', c2, hle1, hrow1⟩ := ex_at (Rp.row_pure HR.out HP.out) hx
        obtain ⟨g1, rfl⟩ : ∃ m, gk = m + 1 := ⟨gk - 1, by omega⟩
        have hx1 : x.cnt ≤ N := Nat.le_trans (Ex.cnt_mem (List.mem_of_getElem? hx)) hc0
        have hct := Ex.cnts_take l k
        have hct2 := Ex.cnts_take l (k + 1)
        have hdt := Ex.deps_le_cnts (l.take k)
        have hxd := Ex.dep_le_cnt x
        have H1 := As.mk (Ex.cnts_succ hx)
        have H2 := As.mk (Ex.deps_succ hx)
        rw [H1.out] at hct2
        have HR1 := As.mk hrow1
        have HK := As.mk hk
        clear hrow1 hk hx
        go_wp2_with (go_at_call 186; refine (HI.out x hx1 _ _ c1 _ (Rp.row_pure HR1.out (Upd.alloc1 _ _ _))).mono ?_; rintro e w1 ⟨rfl, hu⟩; have HU := As.mk (show Pure wr w1 from Upd.trans (Upd.alloc1 _ _ _) hu (fun _ _ h => h)); clear hu)
        all_goals
          go_roundg g1
          case measure => omega
          case rel => exact ⟨k + 1, by have := HK.out; omega, by go_num, by rw [H1.out]; go_num, by rw [H2.out]; congr 1; omega, ⟨Upd.trans HP.out HU.out (fun _ _ h => h)⟩⟩
      · have hkl : k = l.length := by omega
        subst hkl
        rw [List.take_length]
        go_wp2
        go_ret2
        refine ⟨?_, HP.out⟩
        simp only [Ex.cnt, Ex.dep, Int.natCast_add, Int.add_comm]
        rfl
theorem size_calls {F : Nat → Prop} {A : Option Addr} {c : Nat} {e : Ex} {w : World} (hr : exR.row w F A e.l) (hb : e.cnt ≤ 1048576 * 4) :
    Calls Tryz.prog 186 #[e.val A c] w fun r w' => r = .returned (.tuple #[.int .i64 e.cnt, .int .i64 e.dep]) ∧ Pure w w' :=
  size_all (1048576 * 4) e hb (Nat.le_refl _) F A c w hr
theorem empty_is (s : ByteArray) : s.toList.isEmpty = decide (s.size = 0) := by
  rw [ByteArray.toList_eq]
  have e : s.data.toList.length = s.size := by rw [Array.length_toList]; rfl
  cases h : s.data.toList with
  | nil => rw [h] at e; simp at e; simp [← e]
  | cons x r => rw [h] at e; simp at e; simp [← e]
/-- A name: small letters, one at the least. -/
def lettB (c : UInt8) : Bool := decide (97 ≤ c.toNat) && decide (c.toNat ≤ 122)
def nameB (s : ByteArray) : Bool := s.data.toList.all lettB && decide (s.size ≠ 0)
set_option maxRecDepth 100000 in
set_option maxHeartbeats 4000000 in
theorem Name_calls (s : ByteArray) (w : World) (hs : s.size ≤ 1048576 * 4) : Calls Tryz.prog 157 #[.string s] w fun r w' => r = .returned (.bool (nameB s)) ∧ Pure w w' := by
  have hconv := fun W : World => run_bytes_of_string (P := Tryz.prog) W 9 72 5 s Tryz.underlying9 Tryz.underlying72 Tryz.underlying5
  have hfits : s.data.size = s.size := rfl
  go_enter Tryz.func157, Tryz.ntmps157
  go_wp2
  generalize hcap : grownCap w s.size 0 5 = cap
  go_loopg [4, 8] s.size (fun g c i wr => ∃ k : Nat, k + g = s.size ∧ i = .int .i64 k ∧ As ((s.data.toList.take k).all lettB = true) ∧ As (Pure w wr ∧ w.heap.size < wr.heap.size ∧ ∃ fr, wr.heap[w.heap.size]? = some (.cells (bytesRow s cap) 5 fr)))
  case atStart => exact ⟨0, by omega, rfl, ⟨by simp⟩, ⟨((Upd.refl _ _).drew).alloc _, by simp, _, heap_alloc_new _ _⟩⟩
  case round =>
    obtain ⟨k, hk, rfl, HA, HB⟩ := hrel
    obtain ⟨hp, hz, fr, hblk⟩ := HB.out
    by_cases hlt : k < s.size
    · obtain ⟨g1, rfl⟩ : ∃ m, gk = m + 1 := ⟨gk - 1, by omega⟩
      have hlt' : k < s.data.size := hlt
      have hcell : wr.cell? ⟨w.heap.size, k, none⟩ = some (.int .u8 (s.data[k].toNat : Int)) := by
        have := bytesRow_at s cap k hlt'
        simp [World.cell?, hblk, this]
      have hx : s.data.toList[k]? = some s.data[k] := by simp [hlt']
      have HT : As ((s.data.toList.take (k + 1)).all lettB = ((s.data.toList.take k).all lettB && lettB s.data[k])) := ⟨by rw [List.take_add_one, hx, List.all_append]; simp⟩
      rw [HA.out] at HT
      have HN : As (lettB s.data[k] = false → nameB s = false) := ⟨fun h => by
        have : s.data.toList.all lettB = false := by
          rw [List.all_eq_false]
          exact ⟨_, List.mem_of_getElem? hx, by simp [h]⟩
        simp [nameB, this]⟩
      generalize hc : s.data[k] = c at *
      have HK := As.mk hk
      have HP := As.mk hp
      have HL := As.mk hblk
      have h256 := c.toNat_lt
      clear hk hp hblk hx hc HB
      by_cases h1 : c.toNat < 97
      · have hn := As.mk (HN.out (by simp [lettB]; omega))
        have e1 : ((c.toNat : Int) < 97) := by omega
        go_wp2
        go_ret
        exact ⟨ret_bool hn.out.symm, HP.out⟩
      · by_cases h2 : 122 < c.toNat
        · have hn := As.mk (HN.out (by simp [lettB]; omega))
          have e1 : ¬ ((c.toNat : Int) < 97) := by omega
          have e2 : ((c.toNat : Int) > 122) := by omega
          go_wp2
          go_ret
          exact ⟨ret_bool hn.out.symm, HP.out⟩
        · have HC : As (lettB c = true) := ⟨by simp [lettB]; omega⟩
          have e1 : ¬ ((c.toNat : Int) < 97) := by omega
          have e2 : ¬ ((c.toNat : Int) > 122) := by omega
          go_wp2
          go_roundg g1
          case measure => omega
          case rel => exact ⟨k + 1, by have := HK.out; omega, by go_num, ⟨by rw [HT.out, HC.out]; rfl⟩, ⟨HP.out, hz, fr, HL.out⟩⟩
    · have hkl : k = s.size := by omega
      have HA' : As (s.data.toList.all lettB = true) := ⟨by have := HA.out; rwa [List.take_of_length_le (by simp; omega)] at this⟩
      subst hkl
      have HP := As.mk hp
      clear hp hblk HB HA
      go_wp2
      go_ret
      refine ⟨ret_bool ?_, HP.out⟩
      rw [nameB, HA'.out, Bool.true_and, empty_is]
      by_cases h : s.size = 0 <;> simp [h]
/-- A tree is, within one of the kind i. -/
def leastE (k : Int) : Nat := if k = 0 then 0 else if k = 2 ∨ k = 3 then 2 else 1
def mostE (k : Int) (n : Nat) : Nat := if k = 0 then 0 else if k = 2 ∨ k = 3 then n else 1
mutual
def Ex.okB : Int → Ex → Bool
  | i, .mk k nm l =>
    if k = 1 then nameB nm && decide (l.length = 0)
    else if (k = 0 ∧ i ≠ 0) ∨ ((k = 2 ∨ k = 3) ∧ i = k) ∨ ¬ (k = 0 ∨ k = 2 ∨ k = 3 ∨ k = 4 ∨ k = 5 ∨ k = 6) then false
    else Ex.oksB k l && decide (nm.size = 0) && decide (leastE k ≤ l.length) && decide (l.length ≤ mostE k l.length)
def Ex.oksB : Int → List Ex → Bool
  | _, [] => true
  | i, x :: r => Ex.okB i x && Ex.oksB i r
end
theorem Ex.oksB_all (i : Int) (l : List Ex) : Ex.oksB i l = l.all (Ex.okB i) := by
  induction l with
  | nil => rfl
  | cons x r ih => simp [Ex.oksB, ih]
theorem Ex.oks_succ {i : Int} {l : List Ex} {k : Nat} {x : Ex} (hx : l[k]? = some x) : Ex.oksB i (l.take (k + 1)) = (Ex.oksB i (l.take k) && Ex.okB i x) := by
  rw [List.take_add_one, hx, Ex.oksB_all, Ex.oksB_all, List.all_append]
  simp
theorem Ex.oks_mem {i : Int} {l : List Ex} {x : Ex} (hx : x ∈ l) (h : Ex.okB i x = false) : Ex.oksB i l = false := by
  rw [Ex.oksB_all, List.all_eq_false]
  exact ⟨x, hx, by simp [h]⟩
theorem right_early {i k : Int} {nm : ByteArray} {l : List Ex} (h1 : k ≠ 1) (h : (k = 0 ∧ i ≠ 0) ∨ ((k = 2 ∨ k = 3) ∧ i = k) ∨ ¬ (k = 0 ∨ k = 2 ∨ k = 3 ∨ k = 4 ∨ k = 5 ∨ k = 6)) : Ex.okB i (.mk k nm l) = false := by
  rw [Ex.okB, if_neg h1, if_pos h]
theorem right_late {i k : Int} {nm : ByteArray} {l : List Ex} (h1 : k ≠ 1) (h : ¬ ((k = 0 ∧ i ≠ 0) ∨ ((k = 2 ∨ k = 3) ∧ i = k) ∨ ¬ (k = 0 ∨ k = 2 ∨ k = 3 ∨ k = 4 ∨ k = 5 ∨ k = 6))) :
    Ex.okB i (.mk k nm l) = (Ex.oksB k l && decide (nm.size = 0) && decide (leastE k ≤ l.length) && decide (l.length ≤ mostE k l.length)) := by
  rw [Ex.okB, if_neg h1, if_neg h]
/-- The box of an expression. -/
def BoxE (b : Nat) (k : Int) (nm : ByteArray) (n : Nat) (A : Option Addr) (c : Nat) (w : World) : Prop :=
  w.cell? ⟨b, 0, none⟩ = some (.int .i64 k) ∧ w.cell? ⟨b, 1, none⟩ = some (.string nm) ∧ w.cell? ⟨b, 2, none⟩ = some (.slice A n c) ∧ b < w.heap.size
theorem BoxE.pure {b : Nat} {k : Int} {nm : ByteArray} {n : Nat} {A : Option Addr} {c : Nat} {w w1 : World} (h : BoxE b k nm n A c w) (hu : Pure w w1) : BoxE b k nm n A c w1 := by
  obtain ⟨h0, h1, h2, h3⟩ := h
  exact ⟨(hu.cell h3 (fun h => h)).trans h0, (hu.cell h3 (fun h => h)).trans h1, (hu.cell h3 (fun h => h)).trans h2, Nat.lt_of_lt_of_le h3 hu.size⟩
theorem BoxE.new (w : World) (k : Int) (nm : ByteArray) (n : Nat) (A : Option Addr) (c : Nat) (t : TypeId) : BoxE w.heap.size k nm n A c (w.alloc (.cells #[.int .i64 k, .string nm, .slice A n c] t)) := by
  have h := heap_alloc_new w (.cells #[.int .i64 k, .string nm, .slice A n c] t)
  exact ⟨by unfold World.cell?; simp only [h]; rfl, by unfold World.cell?; simp only [h]; rfl, by unfold World.cell?; simp only [h]; rfl, by simp⟩
set_option maxRecDepth 100000 in
set_option maxHeartbeats 4000000 in
theorem right_all (N : Nat) : ∀ (e : Ex) (i : Int), e.wt ≤ N → N ≤ 1048576 * 4 → ∀ (F : Nat → Prop) (A : Option Addr) (c : Nat) (w : World), exR.row w F A e.l →
    Calls Tryz.prog 187 #[e.val A c, .int .i64 i] w fun r w' => r = .returned (.bool (e.okB i)) ∧ Pure w w' := by
  induction N with
  | zero => intro e i he; have := e.wt_pos; omega
  | succ N ih =>
    intro e i he hN F A c w hr
    obtain ⟨k0, nm, l⟩ := e
    have HI := As.mk (fun (x : Ex) (i : Int) (hx : x.wt ≤ N) => ih x i hx (by omega))
    have HR := As.mk hr
    have hc0 : Ex.wts l ≤ N := by simp only [Ex.wt] at he; omega
    have hs0 : nm.size ≤ 1048576 * 4 := by simp only [Ex.wt] at he; omega
    have hll := Ex.wts_len l
    clear hr he ih
    by_cases h1 : k0 = 1
    · subst h1
      have HV : As (Ex.okB i (.mk 1 nm l) = (nameB nm && decide (l.length = 0))) := ⟨by rw [Ex.okB, if_pos rfl]⟩
      cases hq : nameB nm
      · have HV' := As.mk (show false = Ex.okB i (.mk 1 nm l) by rw [HV.out, hq]; rfl)
        clear HV
        go_enter Tryz.func187, Tryz.ntmps187
        go_wp2_with (go_at_call 157; refine (Name_calls nm _ hs0).mono ?_; rintro e w1 ⟨rfl, hu⟩; rw [hq]; have HU := As.mk (Upd.trans (Upd.alloc1 _ _ _) hu (fun _ _ h => h)); clear hu)
        go_ret
        exact ⟨ret_bool HV'.out, HU.out⟩
      · have HV' := As.mk (show decide (l.length = 0) = Ex.okB i (.mk 1 nm l) by rw [HV.out, hq]; rfl)
        clear HV
        go_enter Tryz.func187, Tryz.ntmps187
        go_wp2_with (go_at_call 157; refine (Name_calls nm _ hs0).mono ?_; rintro e w1 ⟨rfl, hu⟩; rw [hq]; obtain ⟨oc, of⟩ := hu.olds; have HU := As.mk (Upd.trans (Upd.alloc1 _ _ _) hu (fun _ _ h => h)); clear hu)
        go_ret
        exact ⟨ret_bool (by rw [← HV'.out]; show (((l.length : Nat) : Int) == 0) = _; rw [Bool.eq_iff_iff, beq_iff_eq, decide_eq_true_iff]; omega), HU.out⟩
    · by_cases h2 : (k0 = 0 ∧ i ≠ 0) ∨ ((k0 = 2 ∨ k0 = 3) ∧ i = k0) ∨ ¬ (k0 = 0 ∨ k0 = 2 ∨ k0 = 3 ∨ k0 = 4 ∨ k0 = 5 ∨ k0 = 6)
      · have HV := As.mk (right_early (nm := nm) (l := l) h1 h2)
        rcases h2 with ⟨rfl, h⟩ | ⟨rfl | rfl, rfl⟩ | h
        · have e0 : (i != 0) = true := by simp [h]
          clear h h1
          go_enter Tryz.func187, Tryz.ntmps187
          go_wp2
          go_ret
          exact ⟨ret_bool HV.out.symm, (Upd.refl _ _).alloc _⟩
        · clear h1
          go_enter Tryz.func187, Tryz.ntmps187
          go_wp2
          go_ret
          exact ⟨ret_bool HV.out.symm, (Upd.refl _ _).alloc _⟩
        · clear h1
          go_enter Tryz.func187, Tryz.ntmps187
          go_wp2
          go_ret
          exact ⟨ret_bool HV.out.symm, (Upd.refl _ _).alloc _⟩
        · have e0 : (k0 == 0) = false := by simp; omega
          have e1 : (k0 == 1) = false := by simp; omega
          have e2 : (k0 == 2) = false := by simp; omega
          have e3 : (k0 == 3) = false := by simp; omega
          have e4 : (k0 == 4) = false := by simp; omega
          have e5 : (k0 == 5) = false := by simp; omega
          have e6 : (k0 == 6) = false := by simp; omega
          clear h h1
          go_enter Tryz.func187, Tryz.ntmps187
          go_wp2
          go_ret
          exact ⟨ret_bool HV.out.symm, (Upd.refl _ _).alloc _⟩
      · have h3 : k0 = 0 ∨ k0 = 2 ∨ k0 = 3 ∨ k0 = 4 ∨ k0 = 5 ∨ k0 = 6 := by omega
        rcases h3 with rfl | rfl | rfl | rfl | rfl | rfl
        · have HV := As.mk (right_late (i := i) (k := 0) (nm := nm) (l := l) (by omega) (by omega))
          obtain rfl : i = 0 := by omega
          clear h1 h2
          go_enter Tryz.func187, Tryz.ntmps187
          go_wp2
          go_loopg [43] l.length (fun g i wr => ∃ k : Nat, k + g = l.length ∧ i = .int .i64 k ∧ As (Ex.oksB 0 (l.take k) = true) ∧ As (Pure w wr ∧ BoxE w.heap.size 0 nm l.length A c wr))
          case atStart => exact ⟨0, by omega, rfl, ⟨by simp [Ex.oksB]⟩, ⟨by first | exact (Upd.refl _ _).alloc _ | exact ((Upd.refl _ _).alloc _).drewN _, by first | exact BoxE.new w _ _ _ _ _ _ | exact (BoxE.new w _ _ _ _ _ _).pure ((Upd.refl _ _).drewN _)⟩⟩
          case round =>
            obtain ⟨k, hk, rfl, HA, HB⟩ := hrel
            obtain ⟨hp, hbx⟩ := HB.out
            have HP := As.mk hp
            have HX := As.mk hbx
            obtain ⟨b0, b1, b2, b3⟩ := hbx
            by_cases hlt : k < l.length
            · obtain ⟨x, hx⟩ : ∃ x, l[k]? = some x := ⟨_, List.getElem?_eq_getElem hlt⟩
              obtain ⟨b, o, A1, c1, rfl, hF, hbl, d0, d1, d2, hle1, hrow1⟩ := ex_at (Rp.row_pure HR.out hp) hx
              obtain ⟨g1, rfl⟩ : ∃ m, gk = m + 1 := ⟨gk - 1, by omega⟩
              have hx1 : x.wt ≤ N := Nat.le_trans (Ex.wt_mem (List.mem_of_getElem? hx)) hc0
              have HT := As.mk (Ex.oks_succ (i := 0) hx)
              rw [HA.out] at HT
              have HM := As.mk (fun h => Ex.oks_mem (i := 0) (List.mem_of_getElem? hx) h)
              have HR1 := As.mk hrow1
              have HK := As.mk hk
              clear hrow1 hk hx hp HB
              cases hq : Ex.okB 0 x
              · have HF := As.mk (show false = Ex.okB 0 (.mk 0 nm l) by rw [HV.out, HM.out hq]; rfl)
                go_wp2_with (go_at_call 187; with_reducible refine (HI.out x 0 hx1 _ _ c1 _ (Rp.row_pure HR1.out (Upd.alloc1 _ _ _))).mono ?_; rintro e w1 ⟨rfl, hu⟩; rw [hq]; have HU := As.mk (show Pure wr w1 from Upd.trans (Upd.alloc1 _ _ _) hu (fun _ _ h => h)); clear hu)
                go_ret
                exact ⟨ret_bool HF.out, HP.out.trans HU.out (fun _ _ h => h)⟩
              · rw [hq] at HT
                go_wp2_with (go_at_call 187; with_reducible refine (HI.out x 0 hx1 _ _ c1 _ (Rp.row_pure HR1.out (Upd.alloc1 _ _ _))).mono ?_; rintro e w1 ⟨rfl, hu⟩; rw [hq]; have HU := As.mk (show Pure wr w1 from Upd.trans (Upd.alloc1 _ _ _) hu (fun _ _ h => h)); clear hu)
                go_roundg g1
                case measure => omega
                case rel => exact ⟨k + 1, by have := HK.out; omega, by go_num, HT, ⟨HP.out.trans HU.out (fun _ _ h => h), HX.out.pure HU.out⟩⟩
            · have hkl : k = l.length := by omega
              subst hkl
              rw [List.take_length] at HA
              rw [HA.out, Bool.true_and] at HV
              clear hp HB
              by_cases a1 : nm.size = 0
              · have f1 : nm.toList.isEmpty = true := by rw [empty_is]; simp [a1]
                by_cases a2 : 0 ≤ l.length
                · have f2 : ((l.length : Int) ≥ 0) := by omega
                  have HF : As (decide (l.length ≤ mostE 0 l.length) = Ex.okB 0 (.mk 0 nm l)) := ⟨by rw [HV.out, decide_eq_true a1, decide_eq_true (show leastE 0 ≤ l.length from a2)]; rfl⟩
                  go_wp2
                  go_ret
                  refine ⟨ret_bool ?_, HP.out⟩
                  rw [← HF.out, Bool.eq_iff_iff]
                  simp [mostE]
                  try omega
                · exact absurd (Nat.zero_le _) a2
              · have f1 : nm.toList.isEmpty = false := by rw [empty_is]; simp [a1]
                have HF : As (false = Ex.okB 0 (.mk 0 nm l)) := ⟨by rw [HV.out, decide_eq_false a1]; rfl⟩
                go_wp2
                go_ret
                exact ⟨ret_bool HF.out, HP.out⟩
        · have HV := As.mk (right_late (i := i) (k := 2) (nm := nm) (l := l) (by omega) (by omega))
          have e0 : (i == 2) = false := by simp; omega
          clear h1 h2
          go_enter Tryz.func187, Tryz.ntmps187
          go_wp2
          go_quiet (fail)
          go_wp2
          go_loopg [43] l.length (fun g i wr => ∃ k : Nat, k + g = l.length ∧ i = .int .i64 k ∧ As (Ex.oksB 2 (l.take k) = true) ∧ As (Pure w wr ∧ BoxE w.heap.size 2 nm l.length A c wr))
          case atStart => exact ⟨0, by omega, rfl, ⟨by simp [Ex.oksB]⟩, ⟨by first | exact (Upd.refl _ _).alloc _ | exact ((Upd.refl _ _).alloc _).drewN _, by first | exact BoxE.new w _ _ _ _ _ _ | exact (BoxE.new w _ _ _ _ _ _).pure ((Upd.refl _ _).drewN _)⟩⟩
          case round =>
            obtain ⟨k, hk, rfl, HA, HB⟩ := hrel
            obtain ⟨hp, hbx⟩ := HB.out
            have HP := As.mk hp
            have HX := As.mk hbx
            obtain ⟨b0, b1, b2, b3⟩ := hbx
            by_cases hlt : k < l.length
            · obtain ⟨x, hx⟩ : ∃ x, l[k]? = some x := ⟨_, List.getElem?_eq_getElem hlt⟩
              obtain ⟨b, o, A1, c1, rfl, hF, hbl, d0, d1, d2, hle1, hrow1⟩ := ex_at (Rp.row_pure HR.out hp) hx
              obtain ⟨g1, rfl⟩ : ∃ m, gk = m + 1 := ⟨gk - 1, by omega⟩
              have hx1 : x.wt ≤ N := Nat.le_trans (Ex.wt_mem (List.mem_of_getElem? hx)) hc0
              have HT := As.mk (Ex.oks_succ (i := 2) hx)
              rw [HA.out] at HT
              have HM := As.mk (fun h => Ex.oks_mem (i := 2) (List.mem_of_getElem? hx) h)
              have HR1 := As.mk hrow1
              have HK := As.mk hk
              clear hrow1 hk hx hp HB
              cases hq : Ex.okB 2 x
              · have HF := As.mk (show false = Ex.okB i (.mk 2 nm l) by rw [HV.out, HM.out hq]; rfl)
                go_wp2_with (go_at_call 187; with_reducible refine (HI.out x 2 hx1 _ _ c1 _ (Rp.row_pure HR1.out (Upd.alloc1 _ _ _))).mono ?_; rintro e w1 ⟨rfl, hu⟩; rw [hq]; have HU := As.mk (show Pure wr w1 from Upd.trans (Upd.alloc1 _ _ _) hu (fun _ _ h => h)); clear hu)
                go_ret
                exact ⟨ret_bool HF.out, HP.out.trans HU.out (fun _ _ h => h)⟩
              · rw [hq] at HT
                go_wp2_with (go_at_call 187; with_reducible refine (HI.out x 2 hx1 _ _ c1 _ (Rp.row_pure HR1.out (Upd.alloc1 _ _ _))).mono ?_; rintro e w1 ⟨rfl, hu⟩; rw [hq]; have HU := As.mk (show Pure wr w1 from Upd.trans (Upd.alloc1 _ _ _) hu (fun _ _ h => h)); clear hu)
                go_roundg g1
                case measure => omega
                case rel => exact ⟨k + 1, by have := HK.out; omega, by go_num, HT, ⟨HP.out.trans HU.out (fun _ _ h => h), HX.out.pure HU.out⟩⟩
            · have hkl : k = l.length := by omega
              subst hkl
              rw [List.take_length] at HA
              rw [HA.out, Bool.true_and] at HV
              clear hp HB
              by_cases a1 : nm.size = 0
              · have f1 : nm.toList.isEmpty = true := by rw [empty_is]; simp [a1]
                by_cases a2 : 2 ≤ l.length
                · have f2 : ((l.length : Int) ≥ 2) := by omega
                  have HF : As (decide (l.length ≤ mostE 2 l.length) = Ex.okB i (.mk 2 nm l)) := ⟨by rw [HV.out, decide_eq_true a1, decide_eq_true (show leastE 2 ≤ l.length from a2)]; rfl⟩
                  go_wp2
                  go_ret
                  refine ⟨ret_bool ?_, HP.out⟩
                  rw [← HF.out, Bool.eq_iff_iff]
                  simp [mostE]
                  try omega
                · have f2 : ¬ ((l.length : Int) ≥ 2) := by omega
                  have HF : As (false = Ex.okB i (.mk 2 nm l)) := ⟨by rw [HV.out, decide_eq_true a1, decide_eq_false (show ¬ leastE 2 ≤ l.length from a2)]; rfl⟩
                  go_wp2
                  go_ret
                  exact ⟨ret_bool HF.out, HP.out⟩
              · have f1 : nm.toList.isEmpty = false := by rw [empty_is]; simp [a1]
                have HF : As (false = Ex.okB i (.mk 2 nm l)) := ⟨by rw [HV.out, decide_eq_false a1]; rfl⟩
                go_wp2
                go_ret
                exact ⟨ret_bool HF.out, HP.out⟩
        · have HV := As.mk (right_late (i := i) (k := 3) (nm := nm) (l := l) (by omega) (by omega))
          have e0 : (i == 3) = false := by simp; omega
          clear h1 h2
          go_enter Tryz.func187, Tryz.ntmps187
          go_wp2
          go_quiet (fail)
          go_wp2
          go_loopg [43] l.length (fun g i wr => ∃ k : Nat, k + g = l.length ∧ i = .int .i64 k ∧ As (Ex.oksB 3 (l.take k) = true) ∧ As (Pure w wr ∧ BoxE w.heap.size 3 nm l.length A c wr))
          case atStart => exact ⟨0, by omega, rfl, ⟨by simp [Ex.oksB]⟩, ⟨by first | exact (Upd.refl _ _).alloc _ | exact ((Upd.refl _ _).alloc _).drewN _, by first | exact BoxE.new w _ _ _ _ _ _ | exact (BoxE.new w _ _ _ _ _ _).pure ((Upd.refl _ _).drewN _)⟩⟩
          case round =>
            obtain ⟨k, hk, rfl, HA, HB⟩ := hrel
            obtain ⟨hp, hbx⟩ := HB.out
            have HP := As.mk hp
            have HX := As.mk hbx
            obtain ⟨b0, b1, b2, b3⟩ := hbx
            by_cases hlt : k < l.length
            · obtain ⟨x, hx⟩ : ∃ x, l[k]? = some x := ⟨_, List.getElem?_eq_getElem hlt⟩
              obtain ⟨b, o, A1, c1, rfl, hF, hbl, d0, d1, d2, hle1, hrow1⟩ := ex_at (Rp.row_pure HR.out hp) hx
              obtain ⟨g1, rfl⟩ : ∃ m, gk = m + 1 := ⟨gk - 1, by omega⟩
              have hx1 : x.wt ≤ N := Nat.le_trans (Ex.wt_mem (List.mem_of_getElem? hx)) hc0
              have HT := As.mk (Ex.oks_succ (i := 3) hx)
              rw [HA.out] at HT
              have HM := As.mk (fun h => Ex.oks_mem (i := 3) (List.mem_of_getElem? hx) h)
              have HR1 := As.mk hrow1
              have HK := As.mk hk
              clear hrow1 hk hx hp HB
              cases hq : Ex.okB 3 x
              · have HF := As.mk (show false = Ex.okB i (.mk 3 nm l) by rw [HV.out, HM.out hq]; rfl)
                go_wp2_with (go_at_call 187; with_reducible refine (HI.out x 3 hx1 _ _ c1 _ (Rp.row_pure HR1.out (Upd.alloc1 _ _ _))).mono ?_; rintro e w1 ⟨rfl, hu⟩; rw [hq]; have HU := As.mk (show Pure wr w1 from Upd.trans (Upd.alloc1 _ _ _) hu (fun _ _ h => h)); clear hu)
                go_ret
                exact ⟨ret_bool HF.out, HP.out.trans HU.out (fun _ _ h => h)⟩
              · rw [hq] at HT
                go_wp2_with (go_at_call 187; with_reducible refine (HI.out x 3 hx1 _ _ c1 _ (Rp.row_pure HR1.out (Upd.alloc1 _ _ _))).mono ?_; rintro e w1 ⟨rfl, hu⟩; rw [hq]; have HU := As.mk (show Pure wr w1 from Upd.trans (Upd.alloc1 _ _ _) hu (fun _ _ h => h)); clear hu)
                go_roundg g1
                case measure => omega
                case rel => exact ⟨k + 1, by have := HK.out; omega, by go_num, HT, ⟨HP.out.trans HU.out (fun _ _ h => h), HX.out.pure HU.out⟩⟩
            · have hkl : k = l.length := by omega
              subst hkl
              rw [List.take_length] at HA
              rw [HA.out, Bool.true_and] at HV
              clear hp HB
              by_cases a1 : nm.size = 0
              · have f1 : nm.toList.isEmpty = true := by rw [empty_is]; simp [a1]
                by_cases a2 : 2 ≤ l.length
                · have f2 : ((l.length : Int) ≥ 2) := by omega
                  have HF : As (decide (l.length ≤ mostE 3 l.length) = Ex.okB i (.mk 3 nm l)) := ⟨by rw [HV.out, decide_eq_true a1, decide_eq_true (show leastE 3 ≤ l.length from a2)]; rfl⟩
                  go_wp2
                  go_ret
                  refine ⟨ret_bool ?_, HP.out⟩
                  rw [← HF.out, Bool.eq_iff_iff]
                  simp [mostE]
                  try omega
                · have f2 : ¬ ((l.length : Int) ≥ 2) := by omega
                  have HF : As (false = Ex.okB i (.mk 3 nm l)) := ⟨by rw [HV.out, decide_eq_true a1, decide_eq_false (show ¬ leastE 3 ≤ l.length from a2)]; rfl⟩
                  go_wp2
                  go_ret
                  exact ⟨ret_bool HF.out, HP.out⟩
              · have f1 : nm.toList.isEmpty = false := by rw [empty_is]; simp [a1]
                have HF : As (false = Ex.okB i (.mk 3 nm l)) := ⟨by rw [HV.out, decide_eq_false a1]; rfl⟩
                go_wp2
                go_ret
                exact ⟨ret_bool HF.out, HP.out⟩
        · have HV := As.mk (right_late (i := i) (k := 4) (nm := nm) (l := l) (by omega) (by omega))
          clear h1 h2
          go_enter Tryz.func187, Tryz.ntmps187
          go_wp2
          go_loopg [43] l.length (fun g i wr => ∃ k : Nat, k + g = l.length ∧ i = .int .i64 k ∧ As (Ex.oksB 4 (l.take k) = true) ∧ As (Pure w wr ∧ BoxE w.heap.size 4 nm l.length A c wr))
          case atStart => exact ⟨0, by omega, rfl, ⟨by simp [Ex.oksB]⟩, ⟨by first | exact (Upd.refl _ _).alloc _ | exact ((Upd.refl _ _).alloc _).drewN _, by first | exact BoxE.new w _ _ _ _ _ _ | exact (BoxE.new w _ _ _ _ _ _).pure ((Upd.refl _ _).drewN _)⟩⟩
          case round =>
            obtain ⟨k, hk, rfl, HA, HB⟩ := hrel
            obtain ⟨hp, hbx⟩ := HB.out
            have HP := As.mk hp
            have HX := As.mk hbx
            obtain ⟨b0, b1, b2, b3⟩ := hbx
            by_cases hlt : k < l.length
            · obtain ⟨x, hx⟩ : ∃ x, l[k]? = some x := ⟨_, List.getElem?_eq_getElem hlt⟩
              obtain ⟨b, o, A1, c1, rfl, hF, hbl, d0, d1, d2, hle1, hrow1⟩ := ex_at (Rp.row_pure HR.out hp) hx
              obtain ⟨g1, rfl⟩ : ∃ m, gk = m + 1 := ⟨gk - 1, by omega⟩
              have hx1 : x.wt ≤ N := Nat.le_trans (Ex.wt_mem (List.mem_of_getElem? hx)) hc0
              have HT := As.mk (Ex.oks_succ (i := 4) hx)
              rw [HA.out] at HT
              have HM := As.mk (fun h => Ex.oks_mem (i := 4) (List.mem_of_getElem? hx) h)
              have HR1 := As.mk hrow1
              have HK := As.mk hk
              clear hrow1 hk hx hp HB
              cases hq : Ex.okB 4 x
              · have HF := As.mk (show false = Ex.okB i (.mk 4 nm l) by rw [HV.out, HM.out hq]; rfl)
                go_wp2_with (go_at_call 187; with_reducible refine (HI.out x 4 hx1 _ _ c1 _ (Rp.row_pure HR1.out (Upd.alloc1 _ _ _))).mono ?_; rintro e w1 ⟨rfl, hu⟩; rw [hq]; have HU := As.mk (show Pure wr w1 from Upd.trans (Upd.alloc1 _ _ _) hu (fun _ _ h => h)); clear hu)
                go_ret
                exact ⟨ret_bool HF.out, HP.out.trans HU.out (fun _ _ h => h)⟩
              · rw [hq] at HT
                go_wp2_with (go_at_call 187; with_reducible refine (HI.out x 4 hx1 _ _ c1 _ (Rp.row_pure HR1.out (Upd.alloc1 _ _ _))).mono ?_; rintro e w1 ⟨rfl, hu⟩; rw [hq]; have HU := As.mk (show Pure wr w1 from Upd.trans (Upd.alloc1 _ _ _) hu (fun _ _ h => h)); clear hu)
                go_roundg g1
                case measure => omega
                case rel => exact ⟨k + 1, by have := HK.out; omega, by go_num, HT, ⟨HP.out.trans HU.out (fun _ _ h => h), HX.out.pure HU.out⟩⟩
            · have hkl : k = l.length := by omega
              subst hkl
              rw [List.take_length] at HA
              rw [HA.out, Bool.true_and] at HV
              clear hp HB
              by_cases a1 : nm.size = 0
              · have f1 : nm.toList.isEmpty = true := by rw [empty_is]; simp [a1]
                by_cases a2 : 1 ≤ l.length
                · have f2 : ((l.length : Int) ≥ 1) := by omega
                  have HF : As (decide (l.length ≤ mostE 4 l.length) = Ex.okB i (.mk 4 nm l)) := ⟨by rw [HV.out, decide_eq_true a1, decide_eq_true (show leastE 4 ≤ l.length from a2)]; rfl⟩
                  go_wp2
                  go_ret
                  refine ⟨ret_bool ?_, HP.out⟩
                  rw [← HF.out, Bool.eq_iff_iff]
                  simp [mostE]
                  try omega
                · have f2 : ¬ ((l.length : Int) ≥ 1) := by omega
                  have HF : As (false = Ex.okB i (.mk 4 nm l)) := ⟨by rw [HV.out, decide_eq_true a1, decide_eq_false (show ¬ leastE 4 ≤ l.length from a2)]; rfl⟩
                  go_wp2
                  go_ret
                  exact ⟨ret_bool HF.out, HP.out⟩
              · have f1 : nm.toList.isEmpty = false := by rw [empty_is]; simp [a1]
                have HF : As (false = Ex.okB i (.mk 4 nm l)) := ⟨by rw [HV.out, decide_eq_false a1]; rfl⟩
                go_wp2
                go_ret
                exact ⟨ret_bool HF.out, HP.out⟩
        · have HV := As.mk (right_late (i := i) (k := 5) (nm := nm) (l := l) (by omega) (by omega))
          clear h1 h2
          go_enter Tryz.func187, Tryz.ntmps187
          go_wp2
          go_loopg [43] l.length (fun g i wr => ∃ k : Nat, k + g = l.length ∧ i = .int .i64 k ∧ As (Ex.oksB 5 (l.take k) = true) ∧ As (Pure w wr ∧ BoxE w.heap.size 5 nm l.length A c wr))
          case atStart => exact ⟨0, by omega, rfl, ⟨by simp [Ex.oksB]⟩, ⟨by first | exact (Upd.refl _ _).alloc _ | exact ((Upd.refl _ _).alloc _).drewN _, by first | exact BoxE.new w _ _ _ _ _ _ | exact (BoxE.new w _ _ _ _ _ _).pure ((Upd.refl _ _).drewN _)⟩⟩
          case round =>
            obtain ⟨k, hk, rfl, HA, HB⟩ := hrel
            obtain ⟨hp, hbx⟩ := HB.out
            have HP := As.mk hp
            have HX := As.mk hbx
            obtain ⟨b0, b1, b2, b3⟩ := hbx
            by_cases hlt : k < l.length
            · obtain ⟨x, hx⟩ : ∃ x, l[k]? = some x := ⟨_, List.getElem?_eq_getElem hlt⟩
              obtain ⟨b, o, A1, c1, rfl, hF, hbl, d0, d1, d2, hle1, hrow1⟩ := ex_at (Rp.row_pure HR.out hp) hx
              obtain ⟨g1, rfl⟩ : ∃ m, gk = m + 1 := ⟨gk - 1, by omega⟩
              have hx1 : x.wt ≤ N := Nat.le_trans (Ex.wt_mem (List.mem_of_getElem? hx)) hc0
              have HT := As.mk (Ex.oks_succ (i := 5) hx)
              rw [HA.out] at HT
              have HM := As.mk (fun h => Ex.oks_mem (i := 5) (List.mem_of_getElem? hx) h)
              have HR1 := As.mk hrow1
              have HK := As.mk hk
              clear hrow1 hk hx hp HB
              cases hq : Ex.okB 5 x
              · have HF := As.mk (show false = Ex.okB i (.mk 5 nm l) by rw [HV.out, HM.out hq]; rfl)
                go_wp2_with (go_at_call 187; with_reducible refine (HI.out x 5 hx1 _ _ c1 _ (Rp.row_pure HR1.out (Upd.alloc1 _ _ _))).mono ?_; rintro e w1 ⟨rfl, hu⟩; rw [hq]; have HU := As.mk (show Pure wr w1 from Upd.trans (Upd.alloc1 _ _ _) hu (fun _ _ h => h)); clear hu)
                go_ret
                exact ⟨ret_bool HF.out, HP.out.trans HU.out (fun _ _ h => h)⟩
              · rw [hq] at HT
                go_wp2_with (go_at_call 187; with_reducible refine (HI.out x 5 hx1 _ _ c1 _ (Rp.row_pure HR1.out (Upd.alloc1 _ _ _))).mono ?_; rintro e w1 ⟨rfl, hu⟩; rw [hq]; have HU := As.mk (show Pure wr w1 from Upd.trans (Upd.alloc1 _ _ _) hu (fun _ _ h => h)); clear hu)
                go_roundg g1
                case measure => omega
                case rel => exact ⟨k + 1, by have := HK.out; omega, by go_num, HT, ⟨HP.out.trans HU.out (fun _ _ h => h), HX.out.pure HU.out⟩⟩
            · have hkl : k = l.length := by omega
              subst hkl
              rw [List.take_length] at HA
              rw [HA.out, Bool.true_and] at HV
              clear hp HB
              by_cases a1 : nm.size = 0
              · have f1 : nm.toList.isEmpty = true := by rw [empty_is]; simp [a1]
                by_cases a2 : 1 ≤ l.length
                · have f2 : ((l.length : Int) ≥ 1) := by omega
                  have HF : As (decide (l.length ≤ mostE 5 l.length) = Ex.okB i (.mk 5 nm l)) := ⟨by rw [HV.out, decide_eq_true a1, decide_eq_true (show leastE 5 ≤ l.length from a2)]; rfl⟩
                  go_wp2
                  go_ret
                  refine ⟨ret_bool ?_, HP.out⟩
                  rw [← HF.out, Bool.eq_iff_iff]
                  simp [mostE]
                  try omega
                · have f2 : ¬ ((l.length : Int) ≥ 1) := by omega
                  have HF : As (false = Ex.okB i (.mk 5 nm l)) := ⟨by rw [HV.out, decide_eq_true a1, decide_eq_false (show ¬ leastE 5 ≤ l.length from a2)]; rfl⟩
                  go_wp2
                  go_ret
                  exact ⟨ret_bool HF.out, HP.out⟩
              · have f1 : nm.toList.isEmpty = false := by rw [empty_is]; simp [a1]
                have HF : As (false = Ex.okB i (.mk 5 nm l)) := ⟨by rw [HV.out, decide_eq_false a1]; rfl⟩
                go_wp2
                go_ret
                exact ⟨ret_bool HF.out, HP.out⟩
        · have HV := As.mk (right_late (i := i) (k := 6) (nm := nm) (l := l) (by omega) (by omega))
          clear h1 h2
          go_enter Tryz.func187, Tryz.ntmps187
          go_wp2
          go_loopg [43] l.length (fun g i wr => ∃ k : Nat, k + g = l.length ∧ i = .int .i64 k ∧ As (Ex.oksB 6 (l.take k) = true) ∧ As (Pure w wr ∧ BoxE w.heap.size 6 nm l.length A c wr))
          case atStart => exact ⟨0, by omega, rfl, ⟨by simp [Ex.oksB]⟩, ⟨by first | exact (Upd.refl _ _).alloc _ | exact ((Upd.refl _ _).alloc _).drewN _, by first | exact BoxE.new w _ _ _ _ _ _ | exact (BoxE.new w _ _ _ _ _ _).pure ((Upd.refl _ _).drewN _)⟩⟩
          case round =>
            obtain ⟨k, hk, rfl, HA, HB⟩ := hrel
            obtain ⟨hp, hbx⟩ := HB.out
            have HP := As.mk hp
            have HX := As.mk hbx
            obtain ⟨b0, b1, b2, b3⟩ := hbx
            by_cases hlt : k < l.length
            · obtain ⟨x, hx⟩ : ∃ x, l[k]? = some x := ⟨_, List.getElem?_eq_getElem hlt⟩
              obtain ⟨b, o, A1, c1, rfl, hF, hbl, d0, d1, d2, hle1, hrow1⟩ := ex_at (Rp.row_pure HR.out hp) hx
              obtain ⟨g1, rfl⟩ : ∃ m, gk = m + 1 := ⟨gk - 1, by omega⟩
              have hx1 : x.wt ≤ N := Nat.le_trans (Ex.wt_mem (List.mem_of_getElem? hx)) hc0
              have HT := As.mk (Ex.oks_succ (i := 6) hx)
              rw [HA.out] at HT
              have HM := As.mk (fun h => Ex.oks_mem (i := 6) (List.mem_of_getElem? hx) h)
              have HR1 := As.mk hrow1
              have HK := As.mk hk
              clear hrow1 hk hx hp HB
              cases hq : Ex.okB 6 x
              · have HF := As.mk (show false = Ex.okB i (.mk 6 nm l) by rw [HV.out, HM.out hq]; rfl)
                go_wp2_with (go_at_call 187; with_reducible refine (HI.out x 6 hx1 _ _ c1 _ (Rp.row_pure HR1.out (Upd.alloc1 _ _ _))).mono ?_; rintro e w1 ⟨rfl, hu⟩; rw [hq]; have HU := As.mk (show Pure wr w1 from Upd.trans (Upd.alloc1 _ _ _) hu (fun _ _ h => h)); clear hu)
                go_ret
                exact ⟨ret_bool HF.out, HP.out.trans HU.out (fun _ _ h => h)⟩
              · rw [hq] at HT
                go_wp2_with (go_at_call 187; with_reducible refine (HI.out x 6 hx1 _ _ c1 _ (Rp.row_pure HR1.out (Upd.alloc1 _ _ _))).mono ?_; rintro e w1 ⟨rfl, hu⟩; rw [hq]; have HU := As.mk (show Pure wr w1 from Upd.trans (Upd.alloc1 _ _ _) hu (fun _ _ h => h)); clear hu)
                go_roundg g1
                case measure => omega
                case rel => exact ⟨k + 1, by have := HK.out; omega, by go_num, HT, ⟨HP.out.trans HU.out (fun _ _ h => h), HX.out.pure HU.out⟩⟩
            · have hkl : k = l.length := by omega
              subst hkl
              rw [List.take_length] at HA
              rw [HA.out, Bool.true_and] at HV
              clear hp HB
              by_cases a1 : nm.size = 0
              · have f1 : nm.toList.isEmpty = true := by rw [empty_is]; simp [a1]
                by_cases a2 : 1 ≤ l.length
                · have f2 : ((l.length : Int) ≥ 1) := by omega
                  have HF : As (decide (l.length ≤ mostE 6 l.length) = Ex.okB i (.mk 6 nm l)) := ⟨by rw [HV.out, decide_eq_true a1, decide_eq_true (show leastE 6 ≤ l.length from a2)]; rfl⟩
                  go_wp2
                  go_ret
                  refine ⟨ret_bool ?_, HP.out⟩
                  rw [← HF.out, Bool.eq_iff_iff]
                  simp [mostE]
                  try omega
                · have f2 : ¬ ((l.length : Int) ≥ 1) := by omega
                  have HF : As (false = Ex.okB i (.mk 6 nm l)) := ⟨by rw [HV.out, decide_eq_true a1, decide_eq_false (show ¬ leastE 6 ≤ l.length from a2)]; rfl⟩
                  go_wp2
                  go_ret
                  exact ⟨ret_bool HF.out, HP.out⟩
              · have f1 : nm.toList.isEmpty = false := by rw [empty_is]; simp [a1]
                have HF : As (false = Ex.okB i (.mk 6 nm l)) := ⟨by rw [HV.out, decide_eq_false a1]; rfl⟩
                go_wp2
                go_ret
                exact ⟨ret_bool HF.out, HP.out⟩
theorem right_calls {F : Nat → Prop} {A : Option Addr} {c : Nat} {e : Ex} {w : World} (i : Int) (hr : exR.row w F A e.l) (hb : e.wt ≤ 1048576 * 4) :
    Calls Tryz.prog 187 #[e.val A c, .int .i64 i] w fun r w' => r = .returned (.bool (e.okB i)) ∧ Pure w w' :=
  right_all (1048576 * 4) e i hb (Nat.le_refl _) F A c w hr
/-- What expr.Check tells. -/
def exprCheck (e : Ex) : Int := if e.cnt > 200 ∨ e.dep > 60 then 2 else if e.okB 0 = false then 4 else 0
set_option maxRecDepth 100000 in
set_option maxHeartbeats 4000000 in
theorem exprCheck_calls {F : Nat → Prop} {A : Option Addr} {c : Nat} {e : Ex} {w : World} (hr : exR.row w F A e.l) (hb : e.wt ≤ 1048576 * 4) :
    Calls Tryz.prog 161 #[e.val A c] w fun r w' => r = .returned (.int .i64 (exprCheck e)) ∧ Pure w w' := by
  have hcb : e.cnt ≤ 1048576 * 4 := Nat.le_trans e.cnt_le_wt hb
  have hdb : e.dep ≤ e.cnt := e.dep_le_cnt
  obtain ⟨k0, nm, l⟩ := e
  have HR := As.mk hr
  have HB := As.mk hb
  have HCB := As.mk hcb
  clear hr hb
  generalize hcn : (Ex.mk k0 nm l).cnt = n at *
  generalize hdn : (Ex.mk k0 nm l).dep = d at *
  have HN := As.mk hcn
  have HD := As.mk hdn
  have HSZ := As.mk (fun (W : World) (h : exR.row W F A l) => hcn ▸ hdn ▸ size_calls (c := c) (e := .mk k0 nm l) (w := W) h (hcn ▸ hcb))
  clear hcn hdn
  by_cases h1 : n > 200
  · have HV : As ((2 : Int) = exprCheck (.mk k0 nm l)) := ⟨by unfold exprCheck; rw [HN.out, HD.out, if_pos (.inl h1)]⟩
    have e1 : ((n : Int) > 200) := by omega
    go_enter Tryz.func161, Tryz.ntmps161
    go_wp2_with (go_at_call 186; refine (HSZ.out _ (Rp.row_pure HR.out (Upd.alloc1 _ _ _))).mono ?_; rintro e w1 ⟨rfl, hu⟩; have HU := As.mk (Upd.trans (Upd.alloc1 _ _ _) hu (fun _ _ h => h)); clear hu)
    go_ret
    exact ⟨ret_int HV.out, HU.out⟩
  · have e1 : ¬ ((n : Int) > 200) := by omega
    by_cases h2 : d > 60
    · have HV : As ((2 : Int) = exprCheck (.mk k0 nm l)) := ⟨by unfold exprCheck; rw [HN.out, HD.out, if_pos (.inr h2)]⟩
      have e2 : ((d : Int) > 60) := by omega
      go_enter Tryz.func161, Tryz.ntmps161
      go_wp2_with (go_at_call 186; refine (HSZ.out _ (Rp.row_pure HR.out (Upd.alloc1 _ _ _))).mono ?_; rintro e w1 ⟨rfl, hu⟩; have HU := As.mk (Upd.trans (Upd.alloc1 _ _ _) hu (fun _ _ h => h)); clear hu)
      go_ret
      exact ⟨ret_int HV.out, HU.out⟩
    · have e2 : ¬ ((d : Int) > 60) := by omega
      have h12 : ¬ (n > 200 ∨ d > 60) := by omega
      cases hq : (Ex.mk k0 nm l).okB 0
      · have HV : As ((4 : Int) = exprCheck (.mk k0 nm l)) := ⟨by unfold exprCheck; rw [HN.out, HD.out, if_neg h12, hq, if_pos rfl]⟩
        clear h1 h2 h12
        go_enter Tryz.func161, Tryz.ntmps161
        go_wp2_with (first
          | (go_at_call 186; refine (HSZ.out _ (Rp.row_pure HR.out (Upd.alloc1 _ _ _))).mono ?_; rintro e w1 ⟨rfl, hu⟩; obtain ⟨oc, of⟩ := hu.olds; have HU := As.mk (Upd.trans (Upd.alloc1 (fun _ => False) _ _) hu (fun _ _ h => h)); clear hu)
          | (go_at_call 187; refine (right_calls (e := .mk k0 nm l) (c := c) 0 (Rp.row_pure HR.out HU.out) HB.out).mono ?_; rintro e w2 ⟨rfl, hu⟩; rw [hq]; have HU2 := As.mk (Upd.trans HU.out hu (fun _ _ h => h)); clear hu))
        go_ret
        exact ⟨ret_int HV.out, HU2.out⟩
      · have HV : As ((0 : Int) = exprCheck (.mk k0 nm l)) := ⟨by unfold exprCheck; rw [HN.out, HD.out, if_neg h12, hq, if_neg (by decide)]⟩
        clear h1 h2 h12
        go_enter Tryz.func161, Tryz.ntmps161
        go_wp2_with (first
          | (go_at_call 186; refine (HSZ.out _ (Rp.row_pure HR.out (Upd.alloc1 _ _ _))).mono ?_; rintro e w1 ⟨rfl, hu⟩; obtain ⟨oc, of⟩ := hu.olds; have HU := As.mk (Upd.trans (Upd.alloc1 (fun _ => False) _ _) hu (fun _ _ h => h)); clear hu)
          | (go_at_call 187; refine (right_calls (e := .mk k0 nm l) (c := c) 0 (Rp.row_pure HR.out HU.out) HB.out).mono ?_; rintro e w2 ⟨rfl, hu⟩; rw [hq]; have HU2 := As.mk (Upd.trans HU.out hu (fun _ _ h => h)); clear hu))
        go_ret
        exact ⟨ret_int HV.out, HU2.out⟩
end Go.Proofs.YtofjodppljnlaaaGreatDoor
namespace Go.Proofs.YtofjodppljnlaaaGreatDoor
open Go.RowKit
set_option linter.unusedVariables false
set_option linter.unusedSimpArgs false
theorem bytes_ne {s u : ByteArray} (h : ¬ s = u) : (s.toList == u.toList) = false := by
  rw [beq_eq_false_iff_ne]
  intro e
  rw [ByteArray.toList_eq, ByteArray.toList_eq] at e
  exact h (ByteArray.ext (Array.toList_inj.1 e))
/-- The types of a name. -/
def typesOf : List Grp → ByteArray → List Int
  | [], _ => []
  | g :: r, nm => if g.name = nm then g.types else typesOf r nm
set_option maxRecDepth 100000 in
set_option maxHeartbeats 4000000 in
theorem types_calls {F : Nat → Prop} {A : Option Addr} {c : Nat} {g : List Grp} (nm : ByteArray) {w : World} (hr : grpR.row w F A g) (hb : g.length ≤ 1048576) :
    Calls Tryz.prog 188 #[.slice A g.length c, .string nm] w fun r w' => (∃ A1 c1, r = .returned (.slice A1 (typesOf g nm).length c1) ∧ (typesOf g nm).length ≤ c1 ∧ intR.row w F A1 (typesOf g nm)) ∧ Pure w w' := by
  have HR := As.mk hr
  clear hr
  go_enter Tryz.func188, Tryz.ntmps188
  go_wp2
  go_loopg [9] g.length (fun gg i wr => ∃ k : Nat, k + gg = g.length ∧ i = .int .i64 k ∧ As (typesOf (g.drop k) nm = typesOf g nm) ∧ As (Pure w wr))
  case atStart => exact ⟨0, by omega, rfl, ⟨rfl⟩, ⟨Upd.refl _ _⟩⟩
  case round =>
    obtain ⟨k, hk, rfl, HT, HP⟩ := hrel
    by_cases hlt : k < g.length
    · obtain ⟨x, hx⟩ : ∃ x, g[k]? = some x := ⟨_, List.getElem?_eq_getElem hlt⟩
      obtain ⟨b, o, A1, c1, rfl, hF, hbl, d0, d1, hle1, hrow1⟩ := grp_at (Rp.row_pure HR.out HP.out) hx
      obtain ⟨b', o', A1', c1', hA', hF', hbl', d0', d1', hle1', hrow1'⟩ := grp_at HR.out hx
      obtain ⟨g1, rfl⟩ : ∃ m, gk = m + 1 := ⟨gk - 1, by omega⟩
      have hd := drop_cons' hx
      rw [hd] at HT
      have HR1 := As.mk hrow1'
      have HK := As.mk hk
      obtain ⟨rfl, rfl⟩ : b = b' ∧ o = o' := by simpa using hA'
      have hsame := (HP.out.cell (o := o + k * 2 + 1) hbl' (fun h => h)).symm.trans d1
      rw [d1'] at hsame
      simp at hsame
      obtain ⟨rfl, rfl⟩ := hsame
      have HD' := As.mk hd
      clear hrow1 hrow1' hk hx d0' d1' hd
      by_cases hn : x.name = nm
      · have HV : As (x.types = typesOf g nm) := ⟨by rw [← HT.out, typesOf, if_pos hn]⟩
        subst hn
        clear HT
        go_wp2
        go_ret
        exact ⟨⟨A1', c1', by rw [← HV.out]; rfl, by rw [← HV.out]; exact hle1', by rw [← HV.out]; exact HR1.out⟩, HP.out.alloc _⟩
      · have HV : As (typesOf (g.drop (k + 1)) nm = typesOf g nm) := ⟨by rw [← HT.out, typesOf, if_neg hn]⟩
        have hn2 := bytes_ne hn
        clear HT
        go_wp2
        go_roundg g1
        case measure => omega
        case rel => exact ⟨k + 1, by have := HK.out; omega, by go_num, HV, ⟨HP.out.alloc _⟩⟩
    · have hkl : k = g.length := by omega
      subst hkl
      rw [List.drop_length] at HT
      have HT2 : As (typesOf g nm = []) := ⟨by rw [← HT.out]; rfl⟩
      clear HT
      go_wp2
      go_ret
      exact ⟨⟨none, 0, by rw [HT2.out]; rfl, by rw [HT2.out]; simp, by rw [HT2.out]; exact .inl rfl⟩, HP.out⟩
def idxP {α : Type} (P : α → Bool) : Nat → List α → Int
  | _, [] => -1
  | k, x :: r => if P x = true then (k : Int) else idxP P (k + 1) r
theorem idxP_any {α : Type} (P : α → Bool) (l : List α) (k : Nat) : decide (idxP P k l ≥ 0) = l.any P := by
  induction l generalizing k with
  | nil => rfl
  | cons x r ih =>
    by_cases h : P x = true
    · simp [idxP, h]
    · simp [idxP, h, ih]
abbrev Clo (bg : Nat) : Value := .func (.func 190) #[] #[.pointer (some ⟨bg, 0, none⟩)]
set_option maxRecDepth 100000 in
set_option maxHeartbeats 4000000 in
theorem IndexFunc_calls {F : Nat → Prop} {A : Option Addr} {c : Nat} {l : List Ex} {w : World} (bg : Nat) (P : Ex → Bool) (hr : exR.row w F A l) (hb : l.length ≤ 1048576 * 4)
    (hc : ∀ x ∈ l, ∀ A1 c1 w1, Pure w w1 → exR.row w1 F A1 x.l → Calls Tryz.prog 190 #[x.val A1 c1, .pointer (some ⟨bg, 0, none⟩)] w1 fun r w' => r = .returned (.bool (P x)) ∧ Pure w1 w') :
    Calls Tryz.prog 212 #[.slice A l.length c, Clo bg] w fun r w' => r = .returned (.int .i64 (idxP P 0 l)) ∧ Pure w w' := by
  have HR := As.mk hr
  have HC := As.mk hc
  clear hr hc
  go_enter Tryz.func212, Tryz.ntmps212
  go_wp2
  go_loopg [8] l.length (fun g i wr => ∃ k : Nat, k + g = l.length ∧ i = .int .i64 k ∧ As (idxP P k (l.drop k) = idxP P 0 l) ∧ As (Pure w wr))
  case atStart => exact ⟨0, by omega, rfl, ⟨rfl⟩, ⟨Upd.refl _ _⟩⟩
  case round =>
    obtain ⟨k, hk, rfl, HT, HP⟩ := hrel
    by_cases hlt : k < l.length
    · obtain ⟨x, hx⟩ : ∃ x, l[k]? = some x := ⟨_, List.getElem?_eq_getElem hlt⟩
      obtain ⟨b, o, A1, c1, rfl, hF, hbl, d0, d1, d2, hle1, hrow1⟩ := ex_at (Rp.row_pure HR.out HP.out) hx
      obtain ⟨g1, rfl⟩ : ∃ m, gk = m + 1 := ⟨gk - 1, by omega⟩
      rw [drop_cons' hx] at HT
      have HX := As.mk (List.mem_of_getElem? hx)
      have HR1 := As.mk hrow1
      have HK := As.mk hk
      clear hrow1 hk hx
      cases hq : P x
      · have HV : As (idxP P (k + 1) (l.drop (k + 1)) = idxP P 0 l) := ⟨by rw [← HT.out]; simp [idxP, hq]⟩
        clear HT
        go_wp2_with (go_at_call 190; refine (HC.out x HX.out _ c1 _ HP.out HR1.out).mono ?_; rintro e w1 ⟨rfl, hu⟩; rw [hq]; have HU := As.mk hu; clear hu)
        go_roundg g1
        case measure => omega
        case rel => exact ⟨k + 1, by have := HK.out; omega, by go_num, HV, ⟨HP.out.trans HU.out (fun _ _ h => h)⟩⟩
      · have HV : As ((k : Int) = idxP P 0 l) := ⟨by rw [← HT.out]; simp [idxP, hq]⟩
        clear HT
        go_wp2_with (go_at_call 190; refine (HC.out x HX.out _ c1 _ HP.out HR1.out).mono ?_; rintro e w1 ⟨rfl, hu⟩; rw [hq]; have HU := As.mk hu; clear hu)
        go_ret
        exact ⟨ret_int HV.out, HP.out.trans HU.out (fun _ _ h => h)⟩
    · have hkl : k = l.length := by omega
      subst hkl
      rw [List.drop_length] at HT
      have HV : As ((-1 : Int) = idxP P 0 l) := ⟨HT.out⟩
      clear HT
      go_wp2
      go_ret
      exact ⟨ret_int HV.out, HP.out⟩
set_option maxRecDepth 100000 in
set_option maxHeartbeats 4000000 in
theorem ContainsFunc_calls {F : Nat → Prop} {A : Option Addr} {c : Nat} {l : List Ex} {w : World} (bg : Nat) (P : Ex → Bool) (hr : exR.row w F A l) (hb : l.length ≤ 1048576 * 4)
    (hc : ∀ x ∈ l, ∀ A1 c1 w1, Pure w w1 → exR.row w1 F A1 x.l → Calls Tryz.prog 190 #[x.val A1 c1, .pointer (some ⟨bg, 0, none⟩)] w1 fun r w' => r = .returned (.bool (P x)) ∧ Pure w1 w') :
    Calls Tryz.prog 189 #[.slice A l.length c, Clo bg] w fun r w' => r = .returned (.bool (l.any P)) ∧ Pure w w' := by
  have HC := As.mk (IndexFunc_calls (c := c) bg P hr hb hc)
  have HV := As.mk (idxP_any P l 0)
  clear hr hc
  go_enter Tryz.func189, Tryz.ntmps189
  go_wp2_with (go_at_call 212; refine HC.out.mono ?_; rintro e w1 ⟨rfl, hu⟩; have HU := As.mk hu; clear hu)
  go_ret
  exact ⟨ret_bool HV.out, HU.out⟩
mutual
def Ex.namedB (g : List Grp) : Ex → Bool
  | .mk k nm l => if k = 1 then decide (0 < (typesOf g nm).length) else Ex.namedsB g l
def Ex.namedsB (g : List Grp) : List Ex → Bool
  | [] => true
  | x :: r => Ex.namedB g x && Ex.namedsB g r
end
theorem Ex.nameds_any (g : List Grp) (l : List Ex) : Ex.namedsB g l = !(l.any (fun x => !(Ex.namedB g x))) := by
  induction l with
  | nil => rfl
  | cons x r ih => simp [Ex.namedsB, ih]
set_option maxRecDepth 100000 in
set_option maxHeartbeats 4000000 in
theorem clo_calls {A B : Option Addr} {c d : Nat} {x : Ex} {g : List Grp} {w : World} (bg : Nat) (hbg : w.cell? ⟨bg, 0, none⟩ = some (.slice B g.length d)) (hbl : bg < w.heap.size)
    (HI : ∀ w1, Pure w w1 → Calls Tryz.prog 162 #[x.val A c, .slice B g.length d] w1 fun r w' => r = .returned (.bool (x.namedB g)) ∧ Pure w1 w') :
    Calls Tryz.prog 190 #[x.val A c, .pointer (some ⟨bg, 0, none⟩)] w fun r w' => r = .returned (.bool (!(x.namedB g))) ∧ Pure w w' := by
  have HC := As.mk HI
  clear HI
  obtain ⟨k0, nm, l⟩ := x
  go_enter Tryz.func190, Tryz.ntmps190
  go_wp2_with (go_at_call 162; refine (HC.out _ (Upd.alloc1 _ _ _)).mono ?_; rintro e w1 ⟨rfl, hu⟩; have HU := As.mk (Upd.trans (Upd.alloc1 (fun _ => False) _ _) hu (fun _ _ h => h)); clear hu)
  go_ret
  exact ⟨rfl, HU.out⟩
set_option maxRecDepth 100000 in
set_option maxHeartbeats 4000000 in
theorem named_all (N : Nat) : ∀ (e : Ex), e.wt ≤ N → N ≤ 1048576 * 4 → ∀ (F G : Nat → Prop) (A B : Option Addr) (c d : Nat) (g : List Grp) (w : World), exR.row w F A e.l → grpR.row w G B g → g.length ≤ 1048576 →
    Calls Tryz.prog 162 #[e.val A c, .slice B g.length d] w fun r w' => r = .returned (.bool (e.namedB g)) ∧ Pure w w' := by
  induction N with
  | zero => intro e he; have := e.wt_pos; omega
  | succ N ih =>
    intro e he hN F G A B c d g w hr hg hgl
    obtain ⟨k0, nm, l⟩ := e
    have HI := As.mk (fun (x : Ex) (hx : x.wt ≤ N) => ih x hx (by omega))
    have HR := As.mk hr
    have HG := As.mk hg
    have hc0 : Ex.wts l ≤ N := by simp only [Ex.wt] at he; omega
    have hll := Ex.wts_len l
    clear hr hg he ih
    by_cases h1 : k0 = 1
    · subst h1
      have HV : As (Ex.namedB g (.mk 1 nm l) = decide (0 < (typesOf g nm).length)) := ⟨by rw [Ex.namedB, if_pos rfl]⟩
      go_enter Tryz.func162, Tryz.ntmps162
      go_wp2_with (go_at_call 188; refine (types_calls nm (Rp.row_pure HG.out ((Upd.alloc1 (fun _ => False) _ _).alloc _)) hgl).mono ?_; rintro e w1 ⟨⟨A1, c1, rfl, _, _⟩, hu⟩; have HU := As.mk (Upd.trans ((Upd.alloc1 (fun _ => False) w _).alloc _) hu (fun _ _ h => h)); clear hu)
      go_ret
      exact ⟨ret_bool HV.out.symm, HU.out⟩
    · have e1 : (k0 == 1) = false := by simp [h1]
      have HV : As (Ex.namedB g (.mk k0 nm l) = !(l.any (fun x => !(Ex.namedB g x)))) := ⟨by rw [Ex.namedB, if_neg h1, Ex.nameds_any]⟩
      clear h1
      show Calls Tryz.prog 162 #[.agg #[.int .i64 k0, .string nm, .slice A l.length c], .slice B g.length d] w _
      have HB := As.mk (show Pure w ((w.alloc (.cells #[.int .i64 k0, .string nm, .slice A l.length c] 92)).alloc (.cells #[.slice B g.length d] 86)) from (Upd.alloc1 (fun _ => False) _ _).alloc _)
      have HC := As.mk (show ((w.alloc (.cells #[.int .i64 k0, .string nm, .slice A l.length c] 92)).alloc (.cells #[.slice B g.length d] 86)).cell? ⟨w.heap.size + 1, 0, none⟩ = some (.slice B g.length d) by
        have := heap_alloc_new (w.alloc (.cells #[.int .i64 k0, .string nm, .slice A l.length c] 92)) (.cells #[.slice B g.length d] 86)
        rw [show (w.alloc (.cells #[.int .i64 k0, .string nm, .slice A l.length c] 92)).heap.size = w.heap.size + 1 by simp] at this
        unfold World.cell?; simp only [this]; rfl)
      have HS := As.mk (show w.heap.size + 1 < ((w.alloc (.cells #[.int .i64 k0, .string nm, .slice A l.length c] 92)).alloc (.cells #[.slice B g.length d] 86)).heap.size by simp)
      generalize hw0 : (w.alloc (.cells #[.int .i64 k0, .string nm, .slice A l.length c] 92)).alloc (.cells #[.slice B g.length d] 86) = w0 at HB HC HS
      have HCF : As (Calls Tryz.prog 189 #[.slice A l.length c, Clo (w.heap.size + 1)] w0 fun r w' => r = .returned (.bool (l.any (fun x => !(x.namedB g)))) ∧ Pure w0 w') := ⟨by
        refine ContainsFunc_calls (F := F) (w.heap.size + 1) (fun x => !(x.namedB g)) (Rp.row_pure HR.out HB.out) (by omega) ?_
        intro x hx A1 c1 w1 hp hrow
        refine clo_calls (B := B) (d := d) _ ((hp.cell HS.out (fun h => h)).trans HC.out) (Nat.lt_of_lt_of_le HS.out hp.size) ?_
        intro w2 hp2
        exact HI.out x (Nat.le_trans (Ex.wt_mem hx) hc0) F G A1 B c1 d g w2 (Rp.row_pure hrow hp2) (Rp.row_pure (Rp.row_pure HG.out (HB.out.trans hp (fun _ _ h => h))) hp2) hgl⟩
      subst hw0
      go_enter Tryz.func162, Tryz.ntmps162
      go_wp2_with (go_at_call 189; refine HCF.out.mono ?_; rintro e w1 ⟨rfl, hu⟩; have HU := As.mk (HB.out.trans hu (fun _ _ h => h)); clear hu)
      go_ret
      exact ⟨ret_bool HV.out.symm, HU.out⟩
theorem named_calls {F G : Nat → Prop} {A B : Option Addr} {c d : Nat} {e : Ex} {g : List Grp} {w : World} (hr : exR.row w F A e.l) (hg : grpR.row w G B g) (hb : e.wt ≤ 1048576 * 4) (hgl : g.length ≤ 1048576) :
    Calls Tryz.prog 162 #[e.val A c, .slice B g.length d] w fun r w' => r = .returned (.bool (e.namedB g)) ∧ Pure w w' :=
  named_all (1048576 * 4) e hb (Nat.le_refl _) F G A B c d g w hr hg hgl
def outB (t : Int) : Bool := decide (t < 0) || decide (16 ≤ t)
def grpB (x : Grp) : Bool := decide (16 < x.types.length) || x.types.any outB
def longB (g : List Grp) : Bool := decide (16 < g.length) || g.any grpB
/-- What reg.Check tells. -/
def regCheck (e : Ex) (g : List Grp) : Int := if exprCheck e ≠ 0 then exprCheck e else if longB g = true then 1 else if e.namedB g = false then 6 else 0
theorem any_succ {α : Type} {f : α → Bool} {l : List α} {k : Nat} {x : α} (hx : l[k]? = some x) : (l.take (k + 1)).any f = ((l.take k).any f || f x) := by
  rw [List.take_add_one, hx, List.any_append]
  simp
set_option maxRecDepth 100000 in
set_option maxHeartbeats 4000000 in
theorem regCheck_calls {F G : Nat → Prop} {A B : Option Addr} {c d : Nat} {e : Ex} {g : List Grp} {w : World} (hr : exR.row w F A e.l) (hg : grpR.row w G B g) (hb : e.wt ≤ 1048576 * 4) (hgl : g.length ≤ 1048576) (hgt : ∀ x ∈ g, x.types.length ≤ 1048576) :
    Calls Tryz.prog 125 #[e.val A c, .slice B g.length d] w fun r w' => r = .returned (.int .i64 (regCheck e g)) ∧ Pure w w' := by
  obtain ⟨k0, nm, l⟩ := e
  have HR := As.mk hr
  have HG := As.mk hg
  have HB := As.mk hb
  have HGT := As.mk hgt
  clear hr hg hb hgt
  by_cases h0 : exprCheck (.mk k0 nm l) = 0
  · have HE := As.mk h0
    clear h0
    go_enter Tryz.func125, Tryz.ntmps125
    go_wp2_with (go_at_call 161; refine (exprCheck_calls (e := .mk k0 nm l) (c := c) (Rp.row_pure HR.out (Upd.alloc1 _ _ _)) HB.out).mono ?_; rintro e w1 ⟨rfl, hu⟩; rw [HE.out]; have HU := As.mk (Upd.trans (Upd.alloc1 (fun _ => False) _ _) hu (fun _ _ h => h)); have HX := As.mk ((BoxE.new w k0 nm l.length A c _).pure hu); clear hu)
    go_loopg [6, 21] g.length (fun gg lb i wr => ∃ k : Nat, k + gg = g.length ∧ i = .int .i64 k ∧ lb = .bool (decide (16 < g.length) || (g.take k).any grpB) ∧ As (Pure w wr ∧ BoxE w.heap.size k0 nm l.length A c wr))
    case atStart => exact ⟨0, by omega, rfl, by simp; try omega, ⟨HU.out, HX.out⟩⟩
    case round =>
      clear HX
      obtain ⟨k, hk, rfl, rfl, HB2⟩ := hrel
      obtain ⟨hp, hbx⟩ := HB2.out
      have HP := As.mk hp
      have HX := As.mk hbx
      obtain ⟨b0, b1, b2, b3⟩ := hbx
      by_cases hlt : k < g.length
      · obtain ⟨x, hx⟩ : ∃ x, g[k]? = some x := ⟨_, List.getElem?_eq_getElem hlt⟩
        obtain ⟨b, o, A1, c1, rfl, hF, hbl, d0, d1, hle1, hrow1⟩ := grp_at (Rp.row_pure HG.out hp) hx
        obtain ⟨b', o', A1', c1', hA', hF', hbl', d0', d1', hle1', hrow1'⟩ := grp_at HG.out hx
        obtain ⟨rfl, rfl⟩ : b = b' ∧ o = o' := by simpa using hA'
        have hsame := (hp.cell (o := o + k * 2 + 1) hbl' (fun h => h)).symm.trans d1
        rw [d1'] at hsame
        simp at hsame
        obtain ⟨rfl, rfl⟩ := hsame
        obtain ⟨g1, rfl⟩ : ∃ m, gk = m + 1 := ⟨gk - 1, by omega⟩
        have HT := As.mk (any_succ (f := grpB) hx)
        have HR1 := As.mk hrow1'
        have HK := As.mk hk
        have htl := HGT.out x (List.mem_of_getElem? hx)
        clear hk hx hp hrow1 hrow1' d0' d1'
        cases hb : (decide (16 < g.length) || (g.take k).any grpB)
        · have hb' := As.mk (Bool.or_eq_false_iff.1 hb)
          clear hb
          by_cases hlen : 16 < x.types.length
          · have hl2 : ((x.types.length : Int) > 16) := by omega
            go_wp2
            go_loopg [6, 35] x.types.length (fun g2 lb i wx => ∃ q : Nat, q + g2 = x.types.length ∧ i = .int .i64 q ∧ lb = .bool (true || (x.types.take q).any outB) ∧ As (Pure w wx ∧ BoxE w.heap.size k0 nm l.length A c wx) ∧ As (wr.heap.size < wx.heap.size ∧ wx.heap[wr.heap.size]? = some (.cells #[.string x.name, .slice A1' x.types.length c1'] 85)))
            case atStart => exact ⟨0, by omega, rfl, by simp, ⟨HP.out.alloc _, HX.out.pure (Upd.alloc1 _ _ _)⟩, ⟨by simp, heap_alloc_new wr _⟩⟩
            case round =>
              obtain ⟨q, hq, rfl, rfl, HP2, HW2⟩ := hrel
              by_cases hlt2 : q < x.types.length
              · obtain ⟨y, hy⟩ : ∃ y, x.types[q]? = some y := ⟨_, List.getElem?_eq_getElem hlt2⟩
                obtain ⟨g2, rfl⟩ : ∃ m, gk = m + 1 := ⟨gk - 1, by omega⟩
                obtain ⟨b2, o2, rfl, hF2, hbl2, y0⟩ := int_at (Rp.row_pure HR1.out HP2.out.1) hy
                have HT2 := As.mk (any_succ (f := outB) hy)
                have HQ := As.mk hq
                clear hq hy
                cases hb : (true || (x.types.take q).any outB)
                · exact absurd hb (by simp)
                · have hb' := As.mk hb
                  clear hb
                  go_wp2
                  go_roundg g2
                  case measure => omega
                  case rel => exact ⟨q + 1, by have := HQ.out; omega, by go_num, by rw [HT2.out, ← Bool.or_assoc, hb'.out]; simp, HP2, HW2⟩
              · have hql : q = x.types.length := by omega
                subst hql
                rw [List.take_length]
                go_wp2
                go_roundg g1
                case measure => omega
                case rel => exact ⟨k + 1, by have := HK.out; omega, by go_num, by rw [HT.out]; simp [grpB, hlen], HP2⟩
          · have hl2 : ¬ ((x.types.length : Int) > 16) := by omega
            go_wp2
            go_loopg [6, 35] x.types.length (fun g2 lb i wx => ∃ q : Nat, q + g2 = x.types.length ∧ i = .int .i64 q ∧ lb = .bool (false || (x.types.take q).any outB) ∧ As (Pure w wx ∧ BoxE w.heap.size k0 nm l.length A c wx) ∧ As (wr.heap.size < wx.heap.size ∧ wx.heap[wr.heap.size]? = some (.cells #[.string x.name, .slice A1' x.types.length c1'] 85)))
            case atStart => exact ⟨0, by omega, rfl, by simp, ⟨HP.out.alloc _, HX.out.pure (Upd.alloc1 _ _ _)⟩, ⟨by simp, heap_alloc_new wr _⟩⟩
            case round =>
              obtain ⟨q, hq, rfl, rfl, HP2, HW2⟩ := hrel
              by_cases hlt2 : q < x.types.length
              · obtain ⟨y, hy⟩ : ∃ y, x.types[q]? = some y := ⟨_, List.getElem?_eq_getElem hlt2⟩
                obtain ⟨g2, rfl⟩ : ∃ m, gk = m + 1 := ⟨gk - 1, by omega⟩
                obtain ⟨b2, o2, rfl, hF2, hbl2, y0⟩ := int_at (Rp.row_pure HR1.out HP2.out.1) hy
                have HT2 := As.mk (any_succ (f := outB) hy)
                have HQ := As.mk hq
                clear hq hy
                cases hb : (false || (x.types.take q).any outB)
                · have hb' := As.mk (Bool.or_eq_false_iff.1 hb)
                  clear hb
                  by_cases y1 : y < 0
                  · have HO : As (outB y = true) := ⟨by simp [outB, y1]⟩
                    go_wp2
                    go_roundg g2
                    case measure => omega
                    case rel => exact ⟨q + 1, by have := HQ.out; omega, by go_num, by rw [HT2.out, HO.out]; simp, HP2, HW2⟩
                  · by_cases y2 : 16 ≤ y
                    · have HO : As (outB y = true) := ⟨by simp [outB, y2]⟩
                      have y3 : y ≥ 16 := y2
                      go_wp2
                      go_roundg g2
                      case measure => omega
                      case rel => exact ⟨q + 1, by have := HQ.out; omega, by go_num, by rw [HT2.out, HO.out]; simp, HP2, HW2⟩
                    · have HO : As (outB y = false) := ⟨by simp [outB]; omega⟩
                      have y3 : ¬ y ≥ 16 := y2
                      go_wp2
                      go_roundg g2
                      case measure => omega
                      case rel => exact ⟨q + 1, by have := HQ.out; omega, by go_num, by rw [HT2.out, HO.out, hb'.out.2]; simp, HP2, HW2⟩
                · have hb' := As.mk hb
                  clear hb
                  go_wp2
                  go_roundg g2
                  case measure => omega
                  case rel => exact ⟨q + 1, by have := HQ.out; omega, by go_num, by rw [HT2.out, ← Bool.or_assoc, hb'.out]; simp, HP2, HW2⟩
              · have hql : q = x.types.length := by omega
                subst hql
                rw [List.take_length]
                go_wp2
                go_roundg g1
                case measure => omega
                case rel => exact ⟨k + 1, by have := HK.out; omega, by go_num, by rw [HT.out]; rw [← Bool.or_assoc, Bool.or_eq_false_iff.2 hb'.out]; simp [grpB, hlen], HP2⟩
        · have hb' := As.mk hb
          clear hb
          go_wp2
          go_loopg [6, 35] x.types.length (fun g2 lb i wx => ∃ q : Nat, q + g2 = x.types.length ∧ i = .int .i64 q ∧ lb = .bool (true || (x.types.take q).any outB) ∧ As (Pure w wx ∧ BoxE w.heap.size k0 nm l.length A c wx) ∧ As (wr.heap.size < wx.heap.size ∧ wx.heap[wr.heap.size]? = some (.cells #[.string x.name, .slice A1' x.types.length c1'] 85)))
          case atStart => exact ⟨0, by omega, rfl, by simp, ⟨HP.out.alloc _, HX.out.pure (Upd.alloc1 _ _ _)⟩, ⟨by simp, heap_alloc_new wr _⟩⟩
          case round =>
            obtain ⟨q, hq, rfl, rfl, HP2, HW2⟩ := hrel
            by_cases hlt2 : q < x.types.length
            · obtain ⟨y, hy⟩ : ∃ y, x.types[q]? = some y := ⟨_, List.getElem?_eq_getElem hlt2⟩
              obtain ⟨g2, rfl⟩ : ∃ m, gk = m + 1 := ⟨gk - 1, by omega⟩
              obtain ⟨b2, o2, rfl, hF2, hbl2, y0⟩ := int_at (Rp.row_pure HR1.out HP2.out.1) hy
              have HT2 := As.mk (any_succ (f := outB) hy)
              have HQ := As.mk hq
              clear hq hy
              cases hb : (true || (x.types.take q).any outB)
              · exact absurd hb (by simp)
              · have hb' := As.mk hb
                clear hb
                go_wp2
                go_roundg g2
                case measure => omega
                case rel => exact ⟨q + 1, by have := HQ.out; omega, by go_num, by rw [HT2.out, ← Bool.or_assoc, hb'.out]; simp, HP2, HW2⟩
            · have hql : q = x.types.length := by omega
              subst hql
              rw [List.take_length]
              go_wp2
              go_roundg g1
              case measure => omega
              case rel => exact ⟨k + 1, by have := HK.out; omega, by go_num, by rw [HT.out]; rw [← Bool.or_assoc, hb'.out]; simp, HP2⟩
      · have hkl : k = g.length := by omega
        subst hkl
        rw [List.take_length]
        cases hb : (decide (16 < g.length) || g.any grpB)
        · cases hn : (Ex.mk k0 nm l).namedB g
          · have HV : As ((6 : Int) = regCheck (.mk k0 nm l) g) := ⟨by unfold regCheck longB; rw [HE.out, hb, hn]; rfl⟩
            have HNM := As.mk (fun w1 (hu : Pure w w1) => named_calls (e := .mk k0 nm l) (c := c) (d := d) (Rp.row_pure HR.out hu) (Rp.row_pure HG.out hu) HB.out hgl)
            rw [hn] at HNM
            clear hb hn hp
            go_wp2_with (go_at_call 162; refine (HNM.out _ HP.out).mono ?_; rintro e w3 ⟨rfl, hu⟩; have HU3 := As.mk (HP.out.trans hu (fun _ _ h => h)); clear hu)
            go_ret
            exact ⟨ret_int HV.out, HU3.out⟩
          · have HV : As ((0 : Int) = regCheck (.mk k0 nm l) g) := ⟨by unfold regCheck longB; rw [HE.out, hb, hn]; rfl⟩
            have HNM := As.mk (fun w1 (hu : Pure w w1) => named_calls (e := .mk k0 nm l) (c := c) (d := d) (Rp.row_pure HR.out hu) (Rp.row_pure HG.out hu) HB.out hgl)
            rw [hn] at HNM
            clear hb hn hp
            go_wp2_with (go_at_call 162; refine (HNM.out _ HP.out).mono ?_; rintro e w3 ⟨rfl, hu⟩; have HU3 := As.mk (HP.out.trans hu (fun _ _ h => h)); clear hu)
            go_ret
            exact ⟨ret_int HV.out, HU3.out⟩
        · have HV : As ((1 : Int) = regCheck (.mk k0 nm l) g) := ⟨by unfold regCheck longB; rw [HE.out, hb]; rfl⟩
          clear hb hp
          go_wp2
          go_ret
          exact ⟨ret_int HV.out, HP.out⟩
  · have HV : As (exprCheck (.mk k0 nm l) = regCheck (.mk k0 nm l) g) := ⟨by unfold regCheck; rw [if_pos h0]⟩
    have e0 : (exprCheck (.mk k0 nm l) != 0) = true := by simp [h0]
    have HC := As.mk (fun W (h : exR.row W F A l) => exprCheck_calls (w := W) (e := .mk k0 nm l) (c := c) h HB.out)
    generalize exprCheck (.mk k0 nm l) = v at *
    clear h0
    go_enter Tryz.func125, Tryz.ntmps125
    go_wp2_with (go_at_call 161; refine (HC.out _ (Rp.row_pure HR.out (Upd.alloc1 _ _ _))).mono ?_; rintro e w1 ⟨rfl, hu⟩; have HU := As.mk (Upd.trans (Upd.alloc1 (fun _ => False) _ _) hu (fun _ _ h => h)); clear hu)
    go_ret
    exact ⟨ret_int HV.out, HU.out⟩
end Go.Proofs.YtofjodppljnlaaaGreatDoor
namespace Go.Proofs.YtofjodppljnlaaaGreatDoor
open Go.RowKit
set_option linter.unusedVariables false
set_option linter.unusedSimpArgs false
structure Spec where
  name : ByteArray
  expr : ByteArray
  leaf : Bool
  marks : Int
  least : Int
  most : Int
  lines : Bool
abbrev Spec.val (s : Spec) : Value := .agg #[.string s.name, .string s.expr, .bool s.leaf, .int .i64 s.marks, .int .i64 s.least, .int .i64 s.most, .bool s.lines]
abbrev Spec.cs (s : Spec) : List Value := [.string s.name, .string s.expr, .bool s.leaf, .int .i64 s.marks, .int .i64 s.least, .int .i64 s.most, .bool s.lines]
def specR : Rp Spec where
  sz := 7
  rep := fun _ _ x cs => cs = x.cs
  len := fun h => by rw [h]; rfl
  one := fun h u hu => by
    rw [h] at hu
    simp [Spec.cs] at hu
    rcases hu with rfl | rfl | rfl | rfl | rfl | rfl | rfl <;> rfl
  move := fun _ h => h
/-- A spec of a row that is read. -/
theorem spec_at {w : World} {F : Nat → Prop} {A : Option Addr} {xs : List Spec} (h : specR.row w F A xs) {j : Nat} {x : Spec} (hx : xs[j]? = some x) :
    ∃ b o, A = some ⟨b, o, none⟩ ∧ F b ∧ b < w.heap.size ∧ w.cell? ⟨b, o + j * 7, none⟩ = some (.string x.name) ∧ w.cell? ⟨b, o + j * 7 + 1, none⟩ = some (.string x.expr) ∧ w.cell? ⟨b, o + j * 7 + 2, none⟩ = some (.bool x.leaf) ∧ w.cell? ⟨b, o + j * 7 + 3, none⟩ = some (.int .i64 x.marks) ∧ w.cell? ⟨b, o + j * 7 + 4, none⟩ = some (.int .i64 x.least) ∧ w.cell? ⟨b, o + j * 7 + 5, none⟩ = some (.int .i64 x.most) ∧ w.cell? ⟨b, o + j * 7 + 6, none⟩ = some (.bool x.lines) := by
  obtain ⟨b, o, cs, hA, hF, hb, hr, hc⟩ := Rp.row_at h hx
  have hr' : cs = x.cs := hr
  subst hr'
  exact ⟨b, o, hA, hF, hb, hc 0 _ rfl, hc 1 _ rfl, hc 2 _ rfl, hc 3 _ rfl, hc 4 _ rfl, hc 5 _ rfl, hc 6 _ rfl⟩
end Go.Proofs.YtofjodppljnlaaaGreatDoor
namespace Go.Proofs.YtofjodppljnlaaaGreatDoor
open Go.RowKit
set_option linter.unusedVariables false
set_option linter.unusedSimpArgs false
def fitsB (s : Spec) : Bool := decide (0 ≤ s.marks) && decide (s.marks < 8) && decide (0 ≤ s.least) && decide (s.least ≤ s.most) && decide (s.most < 16) && (!s.leaf || decide (s.expr.size = 0))
set_option maxRecDepth 100000 in
set_option maxHeartbeats 4000000 in
theorem fits_calls (s : Spec) (w : World) : Calls Tryz.prog 122 #[s.val] w fun r w' => r = .returned (.bool (fitsB s)) ∧ Pure w w' := by
  have he := empty_is s.expr
  cases hq : decide (s.expr.size = 0)
  all_goals
    rw [hq] at he
    cases hl : s.leaf
    all_goals
      have HV := As.mk (show fitsB s = (decide (0 ≤ s.marks) && decide (s.marks < 8) && decide (0 ≤ s.least) && decide (s.least ≤ s.most) && decide (s.most < 16) && (!s.leaf || decide (s.expr.size = 0))) from rfl)
      rw [hq, hl] at HV
      obtain ⟨nm, ex, lf, mk, le, mo, ln⟩ := s
      dsimp only at hl he
      subst hl
      clear hq
      go_enter Tryz.func122, Tryz.ntmps122
      go_wp2
      all_goals go_ret
      all_goals exact ⟨ret_bool (by rw [HV.out]; rw [Bool.eq_iff_iff]; simp <;> omega), (Upd.refl _ _).alloc _⟩
abbrev CloS : Value := .func (.func 121) #[] #[]
set_option maxRecDepth 100000 in
set_option maxHeartbeats 4000000 in
theorem new1_calls (s : Spec) (w : World) : Calls Tryz.prog 121 #[s.val] w fun r w' => r = .returned (.bool (!fitsB s)) ∧ Pure w w' := by
  have HC := As.mk (fun W => fits_calls s W)
  generalize fitsB s = q at *
  obtain ⟨nm, ex, lf, mk, le, mo, ln⟩ := s
  go_enter Tryz.func121, Tryz.ntmps121
  go_wp2_with (go_at_call 122; refine (HC.out _).mono ?_; rintro e w1 ⟨rfl, hu⟩; have HU := As.mk hu; clear hu)
  go_ret
  exact ⟨rfl, (Upd.alloc1 _ _ _).trans HU.out (fun _ _ h => h)⟩
set_option maxRecDepth 100000 in
set_option maxHeartbeats 4000000 in
theorem IndexFuncS_calls {F : Nat → Prop} {A : Option Addr} {c : Nat} {l : List Spec} {w : World} (P : Spec → Bool) (hr : specR.row w F A l) (hb : l.length ≤ 1048576 * 4)
    (hc : ∀ x ∈ l, ∀ w1, Pure w w1 → Calls Tryz.prog 121 #[x.val] w1 fun r w' => r = .returned (.bool (P x)) ∧ Pure w1 w') :
    Calls Tryz.prog 158 #[.slice A l.length c, CloS] w fun r w' => r = .returned (.int .i64 (idxP P 0 l)) ∧ Pure w w' := by
  have HR := As.mk hr
  have HC := As.mk hc
  clear hr hc
  go_enter Tryz.func158, Tryz.ntmps158
  go_wp2
  go_loopg [8] l.length (fun g i wr => ∃ k : Nat, k + g = l.length ∧ i = .int .i64 k ∧ As (idxP P k (l.drop k) = idxP P 0 l) ∧ As (Pure w wr))
  case atStart => exact ⟨0, by omega, rfl, ⟨rfl⟩, ⟨Upd.refl _ _⟩⟩
  case round =>
    obtain ⟨k, hk, rfl, HT, HP⟩ := hrel
    by_cases hlt : k < l.length
    · obtain ⟨x, hx⟩ : ∃ x, l[k]? = some x := ⟨_, List.getElem?_eq_getElem hlt⟩
      obtain ⟨b, o, rfl, hF, hbl, d0, d1, d2, d3, d4, d5, d6⟩ := spec_at (Rp.row_pure HR.out HP.out) hx
      obtain ⟨g1, rfl⟩ : ∃ m, gk = m + 1 := ⟨gk - 1, by omega⟩
      rw [drop_cons' hx] at HT
      have HX := As.mk (List.mem_of_getElem? hx)
      have HK := As.mk hk
      clear hk hx
      cases hq : P x
      · have HV : As (idxP P (k + 1) (l.drop (k + 1)) = idxP P 0 l) := ⟨by rw [← HT.out]; simp [idxP, hq]⟩
        clear HT
        go_wp2_with (go_at_call 121; refine (HC.out x HX.out _ HP.out).mono ?_; rintro e w1 ⟨rfl, hu⟩; rw [hq]; have HU := As.mk hu; clear hu)
        go_roundg g1
        case measure => omega
        case rel => exact ⟨k + 1, by have := HK.out; omega, by go_num, HV, ⟨HP.out.trans HU.out (fun _ _ h => h)⟩⟩
      · have HV : As ((k : Int) = idxP P 0 l) := ⟨by rw [← HT.out]; simp [idxP, hq]⟩
        clear HT
        go_wp2_with (go_at_call 121; refine (HC.out x HX.out _ HP.out).mono ?_; rintro e w1 ⟨rfl, hu⟩; rw [hq]; have HU := As.mk hu; clear hu)
        go_ret
        exact ⟨ret_int HV.out, HP.out.trans HU.out (fun _ _ h => h)⟩
    · have hkl : k = l.length := by omega
      subst hkl
      rw [List.drop_length] at HT
      have HV : As ((-1 : Int) = idxP P 0 l) := ⟨HT.out⟩
      clear HT
      go_wp2
      go_ret
      exact ⟨ret_int HV.out, HP.out⟩
set_option maxRecDepth 100000 in
set_option maxHeartbeats 4000000 in
theorem ContainsFuncS_calls {F : Nat → Prop} {A : Option Addr} {c : Nat} {l : List Spec} {w : World} (P : Spec → Bool) (hr : specR.row w F A l) (hb : l.length ≤ 1048576 * 4)
    (hc : ∀ x ∈ l, ∀ w1, Pure w w1 → Calls Tryz.prog 121 #[x.val] w1 fun r w' => r = .returned (.bool (P x)) ∧ Pure w1 w') :
    Calls Tryz.prog 120 #[.slice A l.length c, CloS] w fun r w' => r = .returned (.bool (l.any P)) ∧ Pure w w' := by
  have HC := As.mk (IndexFuncS_calls (c := c) P hr hb hc)
  have HV := As.mk (idxP_any P l 0)
  clear hr hc
  go_enter Tryz.func120, Tryz.ntmps120
  go_wp2_with (go_at_call 158; refine HC.out.mono ?_; rintro e w1 ⟨rfl, hu⟩; have HU := As.mk hu; clear hu)
  go_ret
  exact ⟨ret_bool HV.out, HU.out⟩
end Go.Proofs.YtofjodppljnlaaaGreatDoor
namespace Go.Proofs.YtofjodppljnlaaaGreatDoor
open Go.RowKit
open Go.Maps (Keyed)
set_option linter.unusedVariables false
set_option linter.unusedSimpArgs false
theorem keyed_str : Keyed Tryz.prog 9 := Maps.string_keyed Tryz.underlying9
theorem key_str {s : ByteArray} (hs : s.size ≤ maxLen) : keyOf Tryz.prog 9 (.string s) = some (.string s.data.toList) := by
  rw [keyOf_string Tryz.underlying9]
  simp [mapKey, Tryz.underlying9, hs]
/-- Block b is a set of texts, of at most n. -/
def StrM (w : World) (b n : Nat) (S : ByteArray → Bool) : Prop := ∃ D : DataW Unit, w.ownsMap Tryz.prog 9 (plainElem Tryz.prog 4) b n D ∧ ∀ x : ByteArray, D.atKey (.string x.data.toList) (.lit (.bool false)) = .lit (.bool (S x))
theorem StrM.kept {w w1 : World} {b n : Nat} {S : ByteArray → Bool} {R : Nat → Prop} (h : StrM w b n S) (hu : Upd R w w1) (hR : ¬ R b) : StrM w1 b n S := by
  obtain ⟨D, hD, hS⟩ := h
  obtain ⟨es, clock, h1, h2⟩ := hD
  exact ⟨D, ⟨es, clock, by rw [hu.block b (Array.getElem?_eq_some_iff.1 h1).1 hR]; exact h1, h2⟩, hS⟩
theorem StrM.lt {w : World} {b n : Nat} {S : ByteArray → Bool} (h : StrM w b n S) : b < w.heap.size := by
  obtain ⟨D, hD, _⟩ := h
  exact hD.lt
theorem StrM.made (w : World) : StrM (w.alloc (.map #[] 0)) w.heap.size 0 (fun _ => false) := ⟨.map [], World.ownsMap_made _ _ _ _, fun x => rfl⟩
theorem StrM.put {S : ByteArray → Bool} {D : DataW Unit} (hD : Maps.IsMap D) (hS : ∀ x : ByteArray, D.atKey (.string x.data.toList) (.lit (.bool false)) = .lit (.bool (S x))) (s x : ByteArray) :
    (D.put (.string s.data.toList) (.lit (.bool true))).atKey (.string x.data.toList) (.lit (.bool false)) = .lit (.bool (S x || decide (x = s))) := by
  by_cases h : x = s
  · subst h
    rw [Maps.atKey_put_same hD (by trivial)]
    simp
  · rw [Maps.atKey_put_other (by
      intro e
      apply h
      injection e with e
      cases x; cases s
      simp at e
      rw [e])]
    rw [hS x]
    simp [h]
/-- The look-up of a bool. -/
theorem wpList_lookup_own_bool {H : Type} {P : Program} (w : World) {ops : Array Oper} {rest : List Oper} {o : Oper} {a : Act} {Q : Exit → Act → World → Prop}
    (hwd : Region.wanted o (yielded ops a.tmps) = true) (m x : Operand) (t : TypeId) (hop : o.op = Op.lookup t m x false)
    (k e : TypeId) (K : Keyed P k) (ht : P.underlying t = some (.map k e)) (he : P.underlying e = some .bool) (hz : (zeroValue e).run P w = .ok (.bool false) w) (b n : Nat) (D : DataW H)
    (hm : a.eval m = .map (some b)) (hown : w.ownsMap P k (plainElem P e) b n D) (key : Value) (kl : Lit) (hx : a.eval x = key) (hkey : keyOf P k key = some kl)
    (c : Bool) (hat : D.atKey kl (.lit (.bool false)) = .lit (.bool c))
    (hK : wpList P ops Q rest (a.put o.dst (.bool c)) w) :
    wpList P ops Q (o :: rest) a w := by
  refine wpList_step fun K' hK' => ?_
  rw [if_pos hwd]
  obtain ⟨v, ps, hrun, hv⟩ := hown.lookup K ht hz (plainElem_bool he false) hkey
  have hvc : v = .bool c := by
    rw [hat] at hv
    cases v <;> simp [plainElem, he] at hv
    rw [hv.1]
  subst hvc
  unfold Oper.wp
  simp [execOp, hop, hm, hx, hrun, Result.andThen]
  exact hK' _ _ hK
/-- The element of a map's literal. -/
theorem wpList_insert_own' {H : Type} {P : Program} (w : World) {ops : Array Oper} {rest : List Oper} {o : Oper} {a : Act} {Q : Exit → Act → World → Prop}
    (hwd : Region.wanted o (yielded ops a.tmps) = true) (m x v : Operand) (t : TypeId) (hop : o.op = Op.insert t m x v)
    (k e : TypeId) (K : Keyed P k) (ht : P.underlying t = some (.map k e)) (R : Value → Option (DataW H × List MemPlace)) (b n : Nat) (D : DataW H)
    (hm : a.eval m = .map (some b)) (hown : w.ownsMap P k R b n D) (hn : n < maxLen) (key val : Value) (kl : Lit) (hx : a.eval x = key) (hv : a.eval v = val) (hkey : keyOf P k key = some kl)
    (d : DataW H) (ps : List MemPlace) (hval : R val = some (d, ps))
    (hK : ∀ w', w'.ownsMap P k R b (n + 1) (D.put kl d) → w.grownBy w' (some b) → wpList P ops Q rest (a.put o.dst undef) w') :
    wpList P ops Q (o :: rest) a w := by
  refine wpList_step fun K' hK' => ?_
  rw [if_pos hwd]
  obtain ⟨w', hrun, r1, r2⟩ := hown.update K ht hn hkey hval
  unfold Oper.wp
  simp [execOp, hop, hm, hx, hv, hrun, Result.andThen]
  exact hK' _ _ (hK w' r1 r2)
set_option maxRecDepth 100000 in
set_option maxHeartbeats 4000000 in
theorem fresh_calls {w : World} {b n sb : Nat} {S : ByteArray → Bool} {s : ByteArray} (h : StrM w b n S) (hc : w.cell? ⟨sb, 0, none⟩ = some (.map (some b))) (hne : sb ≠ b) (hs : s.size ≤ 1048576 * 4) (hn : n ≤ 1000000) :
    Calls Tryz.prog 156 #[.string s, .pointer (some ⟨sb, 0, none⟩)] w fun r w' => r = .returned (.bool (nameB s && !S s)) ∧ StrM w' b (n + 1) (fun x => S x || decide (x = s)) ∧ Upd (fun q => q = b) w w' := by
  have hsb := World.block_lt_of_cell? w _ hc
  obtain ⟨D, hD, hS⟩ := h
  have HD := As.mk hD
  have HSS := As.mk hS
  have HN := As.mk (Name_calls s w hs)
  have HK := As.mk (key_str (s := s) (by unfold maxLen; omega))
  have hzb := fun W : World => (by kernel_rfl : (zeroValue 4).run Tryz.prog W = .ok (.bool false) W)
  have HZ := As.mk hzb
  clear hD hS hzb
  cases hq : nameB s
  · rw [hq] at HN
    go_enter Tryz.func156, Tryz.ntmps156
    go_wp2_with (go_at_call 157; refine HN.out.mono ?_; rintro e w1 ⟨rfl, hu⟩; have HU := As.mk hu; have HC1 := As.mk ((hu.cell hsb (fun h => h)).trans hc); clear hu; apply As.out)
    refine ⟨?_⟩
    have c1 := HC1.out
    have HD1 : As (w1.ownsMap Tryz.prog 9 (plainElem Tryz.prog 4) b n D) := ⟨by
      obtain ⟨es, clock, h1, h2⟩ := HD.out
      exact ⟨es, clock, by rw [HU.out.block b (Array.getElem?_eq_some_iff.1 h1).1 (fun h => h)]; exact h1, h2⟩⟩
    go_wp2_with (at_mapUpdate; refine wpList_mapUpdate_own _ rfl _ _ _ 202 rfl 9 4 keyed_str Tryz.underlying202 _ b n D rfl HD1.out (by unfold maxLen; omega) _ _ _ rfl rfl HK.out _ [] (plainElem_bool Tryz.underlying4 true) ?_; intro w2 hown2 hg2)
    go_ret
    exact ⟨rfl, ⟨_, hown2, fun x => StrM.put (World.ownsMap.isMap HD.out) HSS.out s x⟩, (HU.out.mono (fun _ _ h => h.elim)).trans (Upd.grown1 (S := fun q => q = b) hg2 (fun q hq => by injection hq with hq; exact hq.symm)) (fun _ _ h => h)⟩
  · rw [hq] at HN
    go_enter Tryz.func156, Tryz.ntmps156
    go_wp2_with (go_at_call 157; refine HN.out.mono ?_; rintro e w1 ⟨rfl, hu⟩; have HU := As.mk hu; have HC1 := As.mk ((hu.cell hsb (fun h => h)).trans hc); clear hu; apply As.out)
    refine ⟨?_⟩
    have c1 := HC1.out
    have HD1 : As (w1.ownsMap Tryz.prog 9 (plainElem Tryz.prog 4) b n D) := ⟨by
      obtain ⟨es, clock, h1, h2⟩ := HD.out
      exact ⟨es, clock, by rw [HU.out.block b (Array.getElem?_eq_some_iff.1 h1).1 (fun h => h)]; exact h1, h2⟩⟩
    go_wp2_with (first | (at_lookup; refine wpList_lookup_own_bool _ (by rfl) _ _ 202 rfl 9 4 keyed_str Tryz.underlying202 Tryz.underlying4 (HZ.out _) b n D rfl HD1.out _ _ rfl HK.out (S s) (HSS.out s) ?_) | (at_mapUpdate; refine wpList_mapUpdate_own _ rfl _ _ _ 202 rfl 9 4 keyed_str Tryz.underlying202 _ b n D rfl HD1.out (by unfold maxLen; omega) _ _ _ rfl rfl HK.out _ [] (plainElem_bool Tryz.underlying4 true) ?_; intro w2 hown2 hg2))
    go_ret
    exact ⟨by simp; try rfl, ⟨_, hown2, fun x => StrM.put (World.ownsMap.isMap HD.out) HSS.out s x⟩, (HU.out.mono (fun _ _ h => h.elim)).trans (Upd.grown1 (S := fun q => q = b) hg2 (fun q hq => by injection hq with hq; exact hq.symm)) (fun _ _ h => h)⟩
/-- All names are names, each once, and none was there. -/
def freshAll : List ByteArray → (ByteArray → Bool) → Bool
  | [], _ => true
  | s :: r, S => (nameB s && !S s) && freshAll r (fun x => S x || decide (x = s))
def textName : ByteArray := ⟨#[116, 101, 120, 116]⟩
def namesB (l : List Spec) (g : List Grp) : Bool := freshAll (l.map (·.name) ++ g.map (·.name)) (fun x => decide (x = textName))
structure NamR (w : World) (b sb n : Nat) (S : ByteArray → Bool) (wr : World) : Prop where
  set : StrM wr b n S
  c : wr.cell? ⟨sb, 0, none⟩ = some (.map (some b))
  up : Pure w wr
theorem NamR.step {w wr w2 : World} {b sb n : Nat} {S S' : ByteArray → Bool} (h : NamR w b sb n S wr) (hne : sb ≠ b) (hb : w.heap.size ≤ b) (o : Obj) (hs : StrM w2 b (n + 1) S') (hu : Upd (fun q => q = b) (wr.alloc o) w2) : NamR w b sb (n + 1) S' w2 := by
  have hsb := World.block_lt_of_cell? wr _ h.c
  refine ⟨hs, ?_, (h.up.trans (Upd.alloc1 (fun _ => False) wr o) (fun _ _ h => h)).trans hu (fun q hq e => by omega)⟩
  have hc1 : (wr.alloc o).cell? ⟨sb, 0, none⟩ = some (.map (some b)) := ((Upd.alloc1 (fun _ => False) wr o).cell hsb (fun h => h)).trans h.c
  exact (hu.cell (World.block_lt_of_cell? (wr.alloc o) _ hc1) hne).trans hc1
set_option maxRecDepth 100000 in
set_option maxHeartbeats 4000000 in
theorem names_calls {w : World} {F G : Nat → Prop} {A Bg : Option Addr} {c d : Nat} {l : List Spec} {g : List Grp} (hr : specR.row w F A l) (hg : grpR.row w G Bg g) (hl : l.length ≤ 1000) (hgl : g.length ≤ 1000) (hls : ∀ x ∈ l, x.name.size ≤ 1048576 * 4) (hgs : ∀ x ∈ g, x.name.size ≤ 1048576 * 4) :
    Calls Tryz.prog 119 #[.slice A l.length c, .slice Bg g.length d] w fun r w' => r = .returned (.bool (namesB l g)) ∧ Pure w w' := by
  have HR := As.mk hr
  have HG := As.mk hg
  have HLS := As.mk hls
  have HGS := As.mk hgs
  have HNB := As.mk (show namesB l g = freshAll (l.map (·.name) ++ g.map (·.name)) (fun x => decide (x = textName)) from rfl)
  have hmm := @run_makeMap Tryz.prog
  have HMADE := As.mk (World.ownsMap_made (H := Unit) w Tryz.prog 9 (plainElem Tryz.prog 4))
  have HK := As.mk (key_str (s := textName) (by decide))
  clear hr hg hls hgs
  go_enter Tryz.func119, Tryz.ntmps119
  go_wp2_with (refine wpList_insert_own' _ rfl _ _ _ 202 rfl 9 4 keyed_str Tryz.underlying202 _ w.heap.size 0 _ rfl HMADE.out (by unfold maxLen; omega) _ _ _ rfl rfl HK.out _ [] (plainElem_bool Tryz.underlying4 true) (fun w1 hown1 hg1 => As.out ?_))
  refine ⟨?_⟩
  have hset1 : StrM w1 w.heap.size 1 (fun x => decide (x = textName)) := ⟨_, hown1, fun x => by
    have := StrM.put (S := fun _ => false) (D := .map []) (World.ownsMap.isMap HMADE.out) (fun _ => rfl) textName x
    rw [this]
    simp⟩
  have hup1 : Pure w w1 := (Upd.alloc1 (fun _ => False) w (.map #[] 0)).trans (Upd.grown1 (S := fun q => q = w.heap.size) hg1 (fun q hq => by injection hq with hq; exact hq.symm)) (fun q hq h => by omega)
  have hz1 : w.heap.size < w1.heap.size := hset1.lt
  have HST := As.mk (hset1.kept (Upd.alloc1 (fun _ => False) w1 (.cells #[.map (some w.heap.size)] 202)) (fun h => h))
  have hsb0 := heap_alloc_new w1 (.cells #[.map (some w.heap.size)] 202)
  have HSB : As ((w1.alloc (.cells #[.map (some w.heap.size)] 202)).cell? ⟨w1.heap.size, 0, none⟩ = some (.map (some w.heap.size))) := ⟨by unfold World.cell?; simp only [hsb0]; rfl⟩
  have HPW := As.mk (hup1.alloc (.cells #[.map (some w.heap.size)] 202))
  clear hset1 hup1 hown1 hg1 hsb0
  go_wp2
  go_loopg [16] l.length (fun gg i wr => ∃ (k n : Nat) (S : ByteArray → Bool), k + gg = l.length ∧ i = .int .i64 k ∧ n = k + 1 ∧ As (NamR w w.heap.size w1.heap.size n S wr ∧ freshAll ((l.map (·.name) ++ g.map (·.name)).drop k) S = namesB l g))
  case atStart => exact ⟨0, 1, _, by omega, rfl, rfl, ⟨⟨HST.out, HSB.out, HPW.out⟩, rfl⟩⟩
  case round =>
    obtain ⟨k, n, S, hk, rfl, hnk, HP⟩ := hrel
    by_cases hlt : k < l.length
    · obtain ⟨x, hx⟩ : ∃ x, l[k]? = some x := ⟨_, List.getElem?_eq_getElem hlt⟩
      obtain ⟨g1, rfl⟩ : ∃ m, gk = m + 1 := ⟨gk - 1, by omega⟩
      obtain ⟨bx, ox, rfl, hFb, hbb, d0, d1, d2, d3, d4, d5, d6⟩ := spec_at (Rp.row_pure HR.out HP.out.1.up) hx
      have hdr : (l.map (·.name) ++ g.map (·.name)).drop k = x.name :: (l.map (·.name) ++ g.map (·.name)).drop (k + 1) := by
        have hg0 : (l.map (·.name) ++ g.map (·.name))[k]? = some x.name := by rw [List.getElem?_append_left (by simpa using hlt), List.getElem?_map, hx]; rfl
        obtain ⟨hl0, he0⟩ := List.getElem?_eq_some_iff.1 hg0
        rw [List.drop_eq_getElem_cons hl0, he0]
      have hfa := HP.out.2
      rw [hdr] at hfa
      have HFA := As.mk hfa
      have hsbl : w1.heap.size < wr.heap.size := World.block_lt_of_cell? wr _ HP.out.1.c
      have HFR := As.mk (fresh_calls (sb := w1.heap.size) (b := w.heap.size) (s := x.name) (HP.out.1.set.kept (Upd.alloc1 (fun _ => False) wr (.cells #[.string x.name, .string x.expr, .bool x.leaf, .int .i64 x.marks, .int .i64 x.least, .int .i64 x.most, .bool x.lines] 34)) (fun h => h)) (((Upd.alloc1 (fun _ => False) wr (.cells #[.string x.name, .string x.expr, .bool x.leaf, .int .i64 x.marks, .int .i64 x.least, .int .i64 x.most, .bool x.lines] 34)).cell hsbl (fun h => h)).trans HP.out.1.c) (by omega) (HLS.out x (List.mem_of_getElem? hx)) (by omega))
      have HK := As.mk hk
      have HHS := As.mk hx
      clear hk hx hdr hfa
      cases hq : (nameB x.name && !S x.name)
      · rw [hq] at HFR
        have HQ := As.mk (show namesB l g = false by rw [← HFA.out]; simp only [freshAll, hq, Bool.false_and])
        clear hq
        go_wp2_with (go_at_call 156; refine HFR.out.mono ?_; rintro e w2 ⟨rfl, hs, hu⟩; have HU := As.mk hu; clear hu hs)
        go_ret
        exact ⟨by rw [HQ.out]; rfl, (HP.out.1.up.alloc _).trans HU.out (fun q hq h => by omega)⟩
      · rw [hq] at HFR
        have HQ := As.mk (show freshAll ((l.map (·.name) ++ g.map (·.name)).drop (k + 1)) (fun y => S y || decide (y = x.name)) = namesB l g by rw [← HFA.out]; simp only [freshAll, hq, Bool.true_and])
        clear hq
        go_wp2_with (go_at_call 156; refine HFR.out.mono ?_; rintro e w2 ⟨rfl, hs, hu⟩; have HS2 := As.mk hs; have HU := As.mk hu; clear hu hs)
        go_roundg g1
        case measure => omega
        case rel => exact ⟨k + 1, n + 1, _, by have := HK.out; omega, by go_num, by omega, ⟨HP.out.1.step (by omega) (Nat.le_refl _) _ HS2.out HU.out, HQ.out⟩⟩
    · obtain rfl : k = l.length := by omega
      have HP' := As.mk HP.out
      go_wp2
      go_loopg [28] g.length (fun gg i wr => ∃ (k n : Nat) (S : ByteArray → Bool), k + gg = g.length ∧ i = .int .i64 k ∧ n = (l.length + k) + 1 ∧ As (NamR w w.heap.size w1.heap.size n S wr ∧ freshAll ((l.map (·.name) ++ g.map (·.name)).drop (l.length + k)) S = namesB l g))
      case atStart => exact ⟨0, n, S, by omega, rfl, by omega, HP⟩
      case round =>
        obtain ⟨k, n, S, hk, rfl, hnk, HP⟩ := hrel
        by_cases hlt : k < g.length
        · obtain ⟨x, hx⟩ : ∃ x, g[k]? = some x := ⟨_, List.getElem?_eq_getElem hlt⟩
          obtain ⟨g1, rfl⟩ : ∃ m, gk = m + 1 := ⟨gk - 1, by omega⟩
          obtain ⟨bx, ox, A1x, c1x, rfl, hFb, hbb, d0, d1, _, _⟩ := grp_at (Rp.row_pure HG.out HP.out.1.up) hx
          have hdr : (l.map (·.name) ++ g.map (·.name)).drop (l.length + k) = x.name :: (l.map (·.name) ++ g.map (·.name)).drop ((l.length + k) + 1) := by
            have hg0 : (l.map (·.name) ++ g.map (·.name))[(l.length + k)]? = some x.name := by rw [List.getElem?_append_right (by simp), List.length_map, Nat.add_sub_cancel_left, List.getElem?_map, hx]; rfl
            obtain ⟨hl0, he0⟩ := List.getElem?_eq_some_iff.1 hg0
            rw [List.drop_eq_getElem_cons hl0, he0]
          have hfa := HP.out.2
          rw [hdr] at hfa
          have HFA := As.mk hfa
          have hsbl : w1.heap.size < wr.heap.size := World.block_lt_of_cell? wr _ HP.out.1.c
          have HFR := As.mk (fresh_calls (sb := w1.heap.size) (b := w.heap.size) (s := x.name) (HP.out.1.set.kept (Upd.alloc1 (fun _ => False) wr (.cells #[.string x.name, .slice A1x x.types.length c1x] 85)) (fun h => h)) (((Upd.alloc1 (fun _ => False) wr (.cells #[.string x.name, .slice A1x x.types.length c1x] 85)).cell hsbl (fun h => h)).trans HP.out.1.c) (by omega) (HGS.out x (List.mem_of_getElem? hx)) (by omega))
          have HK := As.mk hk
          have HHS := As.mk hx
          clear hk hx hdr hfa
          cases hq : (nameB x.name && !S x.name)
          · rw [hq] at HFR
            have HQ := As.mk (show namesB l g = false by rw [← HFA.out]; simp only [freshAll, hq, Bool.false_and])
            clear hq
            go_wp2_with (go_at_call 156; refine HFR.out.mono ?_; rintro e w2 ⟨rfl, hs, hu⟩; have HU := As.mk hu; clear hu hs)
            go_ret
            exact ⟨by rw [HQ.out]; rfl, (HP.out.1.up.alloc _).trans HU.out (fun q hq h => by omega)⟩
          · rw [hq] at HFR
            have HQ := As.mk (show freshAll ((l.map (·.name) ++ g.map (·.name)).drop ((l.length + k) + 1)) (fun y => S y || decide (y = x.name)) = namesB l g by rw [← HFA.out]; simp only [freshAll, hq, Bool.true_and])
            clear hq
            go_wp2_with (go_at_call 156; refine HFR.out.mono ?_; rintro e w2 ⟨rfl, hs, hu⟩; have HS2 := As.mk hs; have HU := As.mk hu; clear hu hs)
            go_roundg g1
            case measure => omega
            case rel => exact ⟨k + 1, n + 1, _, by have := HK.out; omega, by go_num, by omega, ⟨HP.out.1.step (by omega) (Nat.le_refl _) _ HS2.out HU.out, HQ.out⟩⟩
        · obtain rfl : k = g.length := by omega
          have HQ := As.mk (show namesB l g = true by
            rw [← HP.out.2, List.drop_eq_nil_of_le (by simp)]
            rfl)
          go_wp2
          go_ret
          exact ⟨by rw [HQ.out]; rfl, HP.out.1.up⟩
end Go.Proofs.YtofjodppljnlaaaGreatDoor
namespace Go.Proofs.YtofjodppljnlaaaGreatDoor
open Go.RowKit
set_option linter.unusedVariables false
set_option linter.unusedSimpArgs false
/-- A text that is read, up to a place. -/
def TB (w : World) (tb : Nat) (s : ByteArray) (k : Nat) : Prop := w.heap[tb]? = some (.cells #[.string s, .int .i64 k] 207 (0, 0))
theorem TB.pure {w w1 : World} {tb : Nat} {s : ByteArray} {k : Nat} (h : TB w tb s k) (hu : Pure w w1) : TB w1 tb s k := (hu.block _ (Array.getElem?_eq_some_iff.1 h).1 (fun h => h)).trans h
theorem TB.cells {w : World} {tb : Nat} {s : ByteArray} {k : Nat} (h : TB w tb s k) : (w.cell? ⟨tb, 0, none⟩ = some (.string s) ∧ w.cell? ⟨tb, 1, none⟩ = some (.int .i64 k)) ∧ w.frozen? ⟨tb, 1, none⟩ = false ∧ tb < w.heap.size := by
  have h' : w.heap[tb]? = some (.cells #[.string s, .int .i64 k] 207 (0, 0)) := h
  refine ⟨⟨?_, ?_⟩, ?_, (Array.getElem?_eq_some_iff.1 h).1⟩
  · unfold World.cell?; simp only [h']; rfl
  · unfold World.cell?; simp only [h']; rfl
  · simp [World.frozen?, h']
theorem TB.set {w : World} {tb : Nat} {s : ByteArray} {k : Nat} (h : TB w tb s k) (m : Nat) : TB (w.setCell ⟨tb, 1, none⟩ (.int .i64 m)) tb s m := by
  have h' : w.heap[tb]? = some (.cells #[.string s, .int .i64 k] 207 (0, 0)) := h
  unfold TB
  simp [World.setCell, Array.getElem?_modify, h']
set_option maxRecDepth 100000 in
set_option maxHeartbeats 4000000 in
theorem next_end {w : World} {tb : Nat} {s : ByteArray} (h : TB w tb s s.size) (hs : s.size ≤ 1000) :
    Calls Tryz.prog 179 #[.pointer (some ⟨tb, 0, none⟩)] w fun r w' => r = .returned (.int .u8 0) ∧ Pure w w' := by
  have HT := As.mk h
  have hlt : ¬ ((s.size : Int) < (s.size : Int)) := by omega
  have hlt2 : decide (s.size < s.size) = false := by simp
  have heq2 : (s.size == s.size) = true := by simp
  clear h
  go_enter Tryz.func179, Tryz.ntmps179
  go_wp2
  go_loopg [] 0 (fun g wr => As (wr = w))
  case atStart => exact ⟨rfl⟩
  case round =>
    obtain rfl := hrel.out
    obtain ⟨⟨c0, c1⟩, f1, htb⟩ := HT.out.cells
    have c0d : wr.drew.cell? ⟨tb, 0, none⟩ = some (.string s) := c0
    have c1d : wr.drew.cell? ⟨tb, 1, none⟩ = some (.int .i64 s.size) := c1
    go_wp2
    refine wp_region_held_drew (S := (fun v => v.cell? ⟨tb, 0, none⟩ = some (.string s) ∧ v.cell? ⟨tb, 1, none⟩ = some (.int .i64 s.size))) (by kernel_rfl) ?_ (fun hHeld => ?_)
    · exact ⟨c0d, c1d⟩
    refine zH 0 ?_
    refine zH 1 ?_
    refine zH 2 ?_
    refine zH 3 ?_
    (try simp only [Act.put, sA, sB, sC])
    refine zH 4 ?_
    refine zH 5 ?_
    refine zH 6 ?_
    refine zH 7 ?_
    (try simp only [Act.put, sA, sB, sC])
    refine zH 8 ?_
    refine zH 9 ?_
    refine zH 10 ?_
    refine sH 11 ?_
    (try simp only [Act.put, sA, sB, sC])
    refine sH 12 ?_
    refine sH 13 ?_
    refine sH 14 ?_
    refine sH 15 ?_
    (try simp only [Act.put, sA, sB, sC])
    refine sH 16 ?_
    refine sH 17 ?_
    refine sH 18 ?_
    refine sH 19 ?_
    (try simp only [Act.put, sA, sB, sC])
    refine sH 20 ?_
    refine zH 21 ?_
    refine wpAnyH_done (by kernel_rfl) ?_ _
    go_wp2
    refine wp_region_held_drew (S := (fun v => v.cell? ⟨tb, 0, none⟩ = some (.string s) ∧ v.cell? ⟨tb, 1, none⟩ = some (.int .i64 s.size))) (by kernel_rfl) ?_ (fun hHeld => ?_)
    · exact ⟨c0d, c1d⟩
    refine zH 0 ?_
    refine zH 1 ?_
    (try simp only [Act.put, sA, sB, sC])
    refine zH 2 ?_
    refine zH 3 ?_
    refine zH 4 ?_
    refine zH 5 ?_
    (try simp only [Act.put, sA, sB, sC])
    refine zH 6 ?_
    refine zH 7 ?_
    refine zH 8 ?_
    refine zH 9 ?_
    (try simp only [Act.put, sA, sB, sC])
    refine wpAnyH_done (by kernel_rfl) ?_ _
    go_wp2
    go_ret
    exact ⟨rfl, ((Upd.refl _ _).drew).drew⟩
set_option maxRecDepth 100000 in
set_option maxHeartbeats 4000000 in
theorem next_at {w : World} {tb k : Nat} {s : ByteArray} (h : TB w tb s k) (hk : k < s.size) (h32 : (s[k] == 32) = false) (h0 : 1 ≤ s[k].toNat) (hs : s.size ≤ 1000) :
    Calls Tryz.prog 179 #[.pointer (some ⟨tb, 0, none⟩)] w fun r w' => r = .returned (.int .u8 s[k].toNat) ∧ Pure w w' := by
  have HT := As.mk h
  have hlt : ((k : Int) < (s.size : Int)) := by omega
  have hlt2 : decide (k < s.size) = true := by simp; exact hk
  have hlt3 : decide ((k : Int) < (s.size : Int)) = true := by simp; omega
  have heq2 : (k == s.size) = false := by simp; omega
  have heq3 : ((k : Int) == (s.size : Int)) = false := by simp; omega
  have hb1 : ((s[k].toNat : Int) == 32) = false := by
    have : s[k] ≠ 32 := by simpa using h32
    simp
    intro h
    apply this
    apply UInt8.toNat_inj.1
    have : s[k].toNat = 32 := by omega
    rw [this]; rfl
  have hb2 : (s[k].toNat == 32) = false := by
    simp at hb1 ⊢
    omega
  have hmx : max (s[k].toNat : Int) 1 = (s[k].toNat : Int) := by omega
  clear h
  go_enter Tryz.func179, Tryz.ntmps179
  go_wp2
  go_loopg [] 0 (fun g wr => As (wr = w))
  case atStart => exact ⟨rfl⟩
  case round =>
    obtain rfl := hrel.out
    obtain ⟨⟨c0, c1⟩, f1, htb⟩ := HT.out.cells
    have c0d : wr.drew.cell? ⟨tb, 0, none⟩ = some (.string s) := c0
    have c1d : wr.drew.cell? ⟨tb, 1, none⟩ = some (.int .i64 k) := c1
    go_wp2
    refine wp_region_held_drew (S := (fun v => v.cell? ⟨tb, 0, none⟩ = some (.string s) ∧ v.cell? ⟨tb, 1, none⟩ = some (.int .i64 k))) (by kernel_rfl) ?_ (fun hHeld => ?_)
    · exact ⟨c0d, c1d⟩
    refine zH 0 ?_
    refine zH 1 ?_
    refine zH 2 ?_
    refine zH 3 ?_
    (try simp only [Act.put, sA, sB, sC])
    refine zH 4 ?_
    refine zH 5 ?_
    refine zH 6 ?_
    refine zH 7 ?_
    (try simp only [Act.put, sA, sB, sC])
    refine zH 8 ?_
    refine zH 9 ?_
    refine zH 10 ?_
    refine zH 11 ?_
    (try simp only [Act.put, sA, sB, sC])
    refine zH 12 ?_
    refine zH 13 ?_
    refine zH 14 ?_
    refine zH 15 ?_
    (try simp only [Act.put, sA, sB, sC])
    refine zH 16 ?_
    refine zH 17 ?_
    refine zH 18 ?_
    refine zH 19 ?_
    (try simp only [Act.put, sA, sB, sC])
    refine zH 20 ?_
    refine zH 21 ?_
    refine wpAnyH_done (by kernel_rfl) ?_ _
    go_wp2
    refine wp_region_held_drew (S := (fun v => v.cell? ⟨tb, 0, none⟩ = some (.string s) ∧ v.cell? ⟨tb, 1, none⟩ = some (.int .i64 k))) (by kernel_rfl) ?_ (fun hHeld => ?_)
    · exact ⟨c0d, c1d⟩
    refine zH 0 ?_
    refine zH 1 ?_
    (try simp only [Act.put, sA, sB, sC])
    refine zH 2 ?_
    refine zH 3 ?_
    refine zH 4 ?_
    refine zH 5 ?_
    (try simp only [Act.put, sA, sB, sC])
    refine zH 6 ?_
    refine zH 7 ?_
    refine zH 8 ?_
    refine zH 9 ?_
    (try simp only [Act.put, sA, sB, sC])
    refine wpAnyH_done (by kernel_rfl) ?_ _
    go_wp2
    refine wp_region_held_drew (S := (fun v => v.cell? ⟨tb, 0, none⟩ = some (.string s) ∧ v.cell? ⟨tb, 1, none⟩ = some (.int .i64 k))) (by kernel_rfl) ?_ (fun hHeld => ?_)
    · exact ⟨c0d, c1d⟩
    refine zH 0 ?_
    refine zH 1 ?_
    refine zH 2 ?_
    refine zH 3 ?_
    (try simp only [Act.put, sA, sB, sC])
    refine zH 4 ?_
    refine zH 5 ?_
    refine zH 6 ?_
    refine zH 7 ?_
    (try simp only [Act.put, sA, sB, sC])
    refine zH 8 ?_
    refine zH 9 ?_
    refine zH 10 ?_
    refine wpAnyH_done (by kernel_rfl) ?_ _
    go_wp2
    go_ret
    exact ⟨rfl, (((Upd.refl _ _).drew).drew).drew⟩
end Go.Proofs.YtofjodppljnlaaaGreatDoor
namespace Go.Proofs.YtofjodppljnlaaaGreatDoor
open Go.RowKit
set_option linter.unusedVariables false
set_option linter.unusedSimpArgs false
theorem set3U (w : World) (rb : Nat) (y0 y1 y2 : Value) : Upd (fun k => k = rb) w (((w.setCell ⟨rb, 0, none⟩ y0).setCell ⟨rb, 1, none⟩ y1).setCell ⟨rb, 2, none⟩ y2) :=
  (((Upd.refl (fun k => k = rb) w).setCell (p := ⟨rb, 0, none⟩) (fun _ => rfl) _).setCell (p := ⟨rb, 1, none⟩) (fun _ => rfl) _).setCell (p := ⟨rb, 2, none⟩) (fun _ => rfl) _
theorem cells3P {w : World} {b : Nat} {x0 x1 x2 : Value} {t : TypeId} (h : w.heap[b]? = some (.cells #[x0, x1, x2] t (0, 0))) :
    (w.cell? ⟨b, 0, none⟩ = some x0 ∧ w.cell? ⟨b, 1, none⟩ = some x1 ∧ w.cell? ⟨b, 2, none⟩ = some x2) ∧ (w.frozen? ⟨b, 0, none⟩ = false ∧ w.frozen? ⟨b, 1, none⟩ = false ∧ w.frozen? ⟨b, 2, none⟩ = false) ∧ b < w.heap.size := by
  refine ⟨⟨?_, ?_, ?_⟩, ⟨?_, ?_, ?_⟩, (Array.getElem?_eq_some_iff.1 h).1⟩
  all_goals first | (unfold World.cell?; simp only [h]; rfl) | simp [World.frozen?, h]
/-- A name in a text: from k to m. -/
structure NameIn (s : ByteArray) (k m : Nat) : Prop where
  lt : k < m
  le : m ≤ s.size
  small : s.size ≤ 1000
  in_ : ∀ i, k ≤ i → i < m → nameB (s.extract i (i + 1)) = true
  out : m < s.size → nameB (s.extract m (m + 1)) = false
set_option maxRecDepth 100000 in
set_option maxHeartbeats 4000000 in
theorem atom_name {w : World} {tb k m : Nat} {s : ByteArray} (h : TB w tb s k) (hn : NameIn s k m) (hk : k < s.size) (h40 : (s[k] == 40) = false) (h32 : (s[k] == 32) = false) (h0 : 1 ≤ s[k].toNat) :
    Calls Tryz.prog 220 #[.pointer (some ⟨tb, 0, none⟩)] w fun r w' => r = .returned (.tuple #[.agg #[.int .i64 1, .string (s.extract k m), .slice none 0 0], .nilIface]) ∧ TB w' tb s m ∧ Upd (fun q => q = tb) w w' := by
  have HN := As.mk hn
  have hks := hn.lt
  have hms := hn.le
  have hsm := hn.small
  have hT1 : Pure w (w.alloc (.cells #[.int .i64 0, .string ⟨#[]⟩, .slice none 0 0] 92)) := Upd.alloc1 _ _ _
  have htbw := h.cells.2.2
  have HNX := As.mk (next_at (h.pure hT1) hk h32 h0 hsm)
  have HT := As.mk (h.pure hT1)
  have hb1 : ((s[k].toNat : Int) == 40) = false := by
    have : s[k] ≠ 40 := by simpa using h40
    simp
    intro h
    apply this
    apply UInt8.toNat_inj.1
    have : s[k].toNat = 40 := by omega
    rw [this]; rfl
  have hb2 : (s[k].toNat == 40) = false := by
    simp at hb1 ⊢
    omega
  clear h hn h40 h32 h0
  go_enter Tryz.func220, Tryz.ntmps220
  go_wp2_with (go_at_call 179; refine HNX.out.mono ?_; rintro e w1 ⟨rfl, hu⟩; have HU1 := As.mk hu; clear hu; apply As.out)
  refine ⟨?_⟩
  have HT1 := As.mk (HT.out.pure HU1.out)
  obtain ⟨⟨c0, c1⟩, f1, htb⟩ := HT1.out.cells
  have hrb0 := (HU1.out.block w.heap.size (by simp) (fun h => h)).trans (heap_alloc_new w _)
  have HRB := As.mk hrb0
  clear hrb0
  go_wp2
  go_loopg [] (m - k) (fun g wr => ∃ i : Nat, i + g = m ∧ k ≤ i ∧ As (TB wr tb s i ∧ Upd (fun q => q = tb) w1 wr))
  case atStart => exact ⟨k, by omega, Nat.le_refl _, ⟨HT1.out, Upd.refl _ _⟩⟩
  case round =>
    obtain ⟨i, hi, hki, HP⟩ := hrel
    clear c0 c1 f1
    obtain ⟨⟨c0, c1⟩, f1, htb2⟩ := HP.out.1.cells
    have c0d : wr.drew.cell? ⟨tb, 0, none⟩ = some (.string s) := c0
    have c1d : wr.drew.cell? ⟨tb, 1, none⟩ = some (.int .i64 i) := c1
    by_cases hlt : i < m
    · obtain ⟨g1, rfl⟩ : ∃ g, gk = g + 1 := ⟨gk - 1, by omega⟩
      have hl1 : ((i : Int) < (s.size : Int)) := by omega
      have hl2 : decide (i < s.size) = true := by simp; omega
      have hl3 : decide ((i : Int) < (s.size : Int)) = true := by simp; omega
      have hwr : IntKind.i64.wrap ((i : Int) + 1) = (i : Int) + 1 := by rw [IntKind.wrap_i64]; omega
      have hx1 : (0 : Int) ≤ (i : Int) + 1 := by omega
      have hx2 : (i : Int) + 1 ≤ (s.size : Int) := by omega
      have hx3 : (i : Int) ≤ (i : Int) + 1 := by omega
      have HI := As.mk hi
      have HNM := As.mk (HN.out.in_ i hki hlt)
      clear hi
      go_wp2
      refine wp_region_held_drew (S := (fun v => v.cell? ⟨tb, 0, none⟩ = some (.string s) ∧ v.cell? ⟨tb, 1, none⟩ = some (.int .i64 i))) (by kernel_rfl) ?_ (fun hHeld => ?_)
      · first | exact ⟨(HUn.out.cell htb2 (fun h => h)).trans c0d, (HUn.out.cell htb2 (fun h => h)).trans c1d⟩ | exact ⟨c0d, c1d⟩
      refine zH 0 ?_
      (try simp only [Act.put, sA, sB, sC])
      refine zH 1 ?_
      refine zH 2 ?_
      refine zH 3 ?_
      refine zH 4 ?_
      (try simp only [Act.put, sA, sB, sC])
      refine zH 5 ?_
      refine zH 6 ?_
      refine zH 7 ?_
      refine zH 8 ?_
      (try simp only [Act.put, sA, sB, sC])
      refine zH 9 ?_
      refine zH 10 ?_
      refine zH 11 ?_
      refine zH 12 ?_
      (try simp only [Act.put, sA, sB, sC])
      refine zH 13 ?_
      refine zH 14 ?_
      refine zH 15 ?_
      refine zH 16 ?_
      (try simp only [Act.put, sA, sB, sC])
      refine zH 17 ?_
      refine zH 18 ?_
      refine zH 19 ?_
      refine zH 20 ?_
      (try simp only [Act.put, sA, sB, sC])
      refine zH 21 ?_
      refine zH 22 ?_
      refine zH 23 ?_
      refine zH 24 ?_
      (try simp only [Act.put, sA, sB, sC])
      refine wpAnyH_ready (rs := [25]) (by kernel_rfl) (by simp) (AllReadyH.cons (o := { dst := (some 71), op := (Go.Op.call { callee := (Go.Callee.value (Go.Operand.func 157)), args := #[(Go.Operand.tmp 70)], argTypes := #[9] }), type := 4, pos := "expr.go:172", after := #[{ on := 24, ground := Go.Ground.data }, { on := 10, ground := Go.Ground.chain }, { on := 10, ground := Go.Ground.guard }], guard := (some (10, true)) }) rfl (fun K hK => ?_) AllReadyH.nil)
      go_simp
      (go_at_call 157; refine (Name_calls (s.extract i (i + 1)) _ (by simp; omega)).mono ?_; rintro e wn ⟨rfl, hu⟩; rw [HNM.out]; have HUn := As.mk (show Pure wr.drew wn from hu); clear hu)
      refine hK.out _ _ (by first | exact ⟨(HUn.out.cell htb2 (fun h => h)).trans c0d, (HUn.out.cell htb2 (fun h => h)).trans c1d⟩ | exact ⟨c0d, c1d⟩) (fun hHeld => ?_)
      clear hK K
      (try simp only [Act.put, sA, sB, sC])
      refine zH 26 ?_
      refine wpAnyH_done (by kernel_rfl) ?_ _
      obtain ⟨⟨n0, n1⟩, nf1, ntb⟩ := (HP.out.1.pure ((Upd.refl (fun _ => False) wr).drew.trans HUn.out (fun _ _ h => h))).cells
      go_wp2
      go_roundg g1
      case measure => omega
      case rel =>
        have hT2 := (HP.out.1.pure ((Upd.refl (fun _ => False) wr).drew.trans HUn.out (fun _ _ h => h))).set (i + 1)
        exact ⟨i + 1, by have := HI.out; omega, by omega, ⟨hT2, (HP.out.2.trans ((Upd.refl (fun _ => False) wr).drew.trans HUn.out (fun _ _ h => h)) (fun _ _ h => h.elim)).setCell (p := ⟨tb, 1, none⟩) (fun _ => rfl) _⟩⟩
    · have him : i = m := by omega
      have hik : ((i : Int) == (k : Int)) = false := by simp; omega
      have hik2 : (i == k) = false := by simp; omega
      have hsl1 : (0 : Int) ≤ (i : Int) := by omega
      have hsl2 : (i : Int) ≤ (s.size : Int) := by omega
      have hsl3 : (k : Int) ≤ (i : Int) := by omega
      by_cases hend : i < s.size
      · have hl1 : ((i : Int) < (s.size : Int)) := by omega
        have hl2 : decide (i < s.size) = true := by simp; omega
        have hl3 : decide ((i : Int) < (s.size : Int)) = true := by simp; omega
        have hwr : IntKind.i64.wrap ((i : Int) + 1) = (i : Int) + 1 := by rw [IntKind.wrap_i64]; omega
        have hx1 : (0 : Int) ≤ (i : Int) + 1 := by omega
        have hx2 : (i : Int) + 1 ≤ (s.size : Int) := by omega
        have hx3 : (i : Int) ≤ (i : Int) + 1 := by omega
        have HNM : As (nameB (s.extract i (i + 1)) = false) := ⟨by rw [him]; exact HN.out.out (by omega)⟩
        have HIM := As.mk him
        clear him
        go_wp2
        refine wp_region_held_drew (S := (fun v => v.cell? ⟨tb, 0, none⟩ = some (.string s) ∧ v.cell? ⟨tb, 1, none⟩ = some (.int .i64 i))) (by kernel_rfl) ?_ (fun hHeld => ?_)
        · first | exact ⟨(HUn.out.cell htb2 (fun h => h)).trans c0d, (HUn.out.cell htb2 (fun h => h)).trans c1d⟩ | exact ⟨c0d, c1d⟩
        refine zH 0 ?_
        refine zH 1 ?_
        (try simp only [Act.put, sA, sB, sC])
        refine zH 2 ?_
        refine zH 3 ?_
        refine zH 4 ?_
        refine zH 5 ?_
        (try simp only [Act.put, sA, sB, sC])
        refine zH 6 ?_
        refine zH 7 ?_
        refine zH 8 ?_
        refine zH 9 ?_
        (try simp only [Act.put, sA, sB, sC])
        refine zH 10 ?_
        refine zH 11 ?_
        refine zH 12 ?_
        refine zH 13 ?_
        (try simp only [Act.put, sA, sB, sC])
        refine zH 14 ?_
        refine zH 15 ?_
        refine zH 16 ?_
        refine zH 17 ?_
        (try simp only [Act.put, sA, sB, sC])
        refine zH 18 ?_
        refine zH 19 ?_
        refine zH 20 ?_
        refine zH 21 ?_
        (try simp only [Act.put, sA, sB, sC])
        refine zH 22 ?_
        refine zH 23 ?_
        refine zH 24 ?_
        refine wpAnyH_ready (rs := [25]) (by kernel_rfl) (by simp) (AllReadyH.cons (o := { dst := (some 71), op := (Go.Op.call { callee := (Go.Callee.value (Go.Operand.func 157)), args := #[(Go.Operand.tmp 70)], argTypes := #[9] }), type := 4, pos := "expr.go:172", after := #[{ on := 24, ground := Go.Ground.data }, { on := 10, ground := Go.Ground.chain }, { on := 10, ground := Go.Ground.guard }], guard := (some (10, true)) }) rfl (fun K hK => ?_) AllReadyH.nil)
        go_simp
        (go_at_call 157; refine (Name_calls (s.extract i (i + 1)) _ (by simp; omega)).mono ?_; rintro e wn ⟨rfl, hu⟩; rw [HNM.out]; have HUn := As.mk (show Pure wr.drew wn from hu); clear hu)
        refine hK.out _ _ (by first | exact ⟨(HUn.out.cell htb2 (fun h => h)).trans c0d, (HUn.out.cell htb2 (fun h => h)).trans c1d⟩ | exact ⟨c0d, c1d⟩) (fun hHeld => ?_)
        clear hK K
        (try simp only [Act.put, sA, sB, sC])
        refine zH 26 ?_
        refine wpAnyH_done (by kernel_rfl) ?_ _
        have HW9 := As.mk ((Upd.refl (fun _ => False) wr).drew.trans HUn.out (fun _ _ h => h))
        obtain ⟨⟨n0, n1⟩, nf1, ntb⟩ := (HP.out.1.pure HW9.out).cells
        have hrb : wn.heap[w.heap.size]? = some (.cells #[.int .i64 0, .string ⟨#[]⟩, .slice none 0 0] 92 (0, 0)) := ((HW9.out.block _ (by have := HP.out.2.size; have := (Array.getElem?_eq_some_iff.1 HRB.out).1; omega) (fun h => h)).trans (HP.out.2.block _ (Array.getElem?_eq_some_iff.1 HRB.out).1 (by omega))).trans HRB.out
        obtain ⟨⟨r0, r1, r2⟩, ⟨rf0, rf1, rf2⟩, hrl⟩ := cells3P hrb
        have n0d : wn.drew.cell? ⟨tb, 0, none⟩ = some (.string s) := n0
        have n1d : wn.drew.cell? ⟨tb, 1, none⟩ = some (.int .i64 i) := n1
        have hne : ¬ tb = w.heap.size := by omega
        go_wp2
        refine wp_region_T (P := Tryz.prog) (fun v => (v.cell? ⟨tb, 0, none⟩ = some (.string s) ∧ v.cell? ⟨tb, 1, none⟩ = some (.int .i64 i)) ∧ v.frozen? ⟨w.heap.size, 0, none⟩ = false ∧ v.frozen? ⟨w.heap.size, 1, none⟩ = false ∧ v.frozen? ⟨w.heap.size, 2, none⟩ = false) 12 (by kernel_rfl) ?_ (fun hHeld => ?_)
        · first | exact ⟨⟨((set3U _ w.heap.size _ _ _).cell ntb hne).trans n0d, ((set3U _ w.heap.size _ _ _).cell ntb hne).trans n1d⟩, by simp [World.frozen?_setCell, rf0], by simp [World.frozen?_setCell, rf1], by simp [World.frozen?_setCell, rf2]⟩ | exact ⟨⟨n0d, n1d⟩, rf0, rf1, rf2⟩
        refine zT 0 ?_
        refine zT 1 ?_
        refine zT 2 ?_
        (try simp only [Act.put, sA, sB, sC])
        refine zT 3 ?_
        refine zT 4 ?_
        refine zT 5 ?_
        refine zT 6 ?_
        (try simp only [Act.put, sA, sB, sC])
        refine zT 7 ?_
        refine zT 8 ?_
        refine zT 9 ?_
        refine zT 10 ?_
        (try simp only [Act.put, sA, sB, sC])
        refine oT 11 (fun K hK => ?_)
        go_simp
        refine hK.out _ _ (fun _ => by first | exact ⟨⟨((set3U _ w.heap.size _ _ _).cell ntb hne).trans n0d, ((set3U _ w.heap.size _ _ _).cell ntb hne).trans n1d⟩, by simp [World.frozen?_setCell, rf0], by simp [World.frozen?_setCell, rf1], by simp [World.frozen?_setCell, rf2]⟩ | exact ⟨⟨n0d, n1d⟩, rf0, rf1, rf2⟩) (fun hHeld => ?_)
        replace hHeld := hHeld (by decide)
        clear hK K
        (try simp only [Act.put, sA, sB, sC])
        refine oT 12 (fun K hK => ?_)
        go_simp
        refine hK.out _ _ (fun h => absurd rfl h) (fun hHeld => ?_)
        clear hK K
        (try simp only [Act.put, sA, sB, sC])
        refine wpAnyT_done (by kernel_rfl) ?_ _
        go_wp2
        exact bodyPost_ret (v := .tuple #[.agg #[.int .i64 1, .string (s.extract k i), .slice none 0 0], .nilIface]) (by simp [results, Tryz.results220, go_sem, r0, r1, r2, rf0, rf1, rf2]) rfl ⟨by rw [HIM.out], by
          have hT := HP.out.1.pure HW9.out
          unfold TB at hT ⊢
          rw [← HIM.out]
          exact (((set3U _ w.heap.size _ _ _).drew).block _ ntb hne).trans hT, by
          refine Upd.trans (S' := fun q => q = w.heap.size) (((hT1.trans HU1.out (fun _ _ h => h)).mono (fun _ _ h => h.elim)).trans (HP.out.2.trans HW9.out (fun _ _ h => h.elim)) (fun q hq h => h)) ?_ (fun q hq h => absurd h (by omega))
          first | exact (set3U _ w.heap.size _ _ _).drew | exact ((set3U _ w.heap.size _ _ _).drew).drew⟩
      · have hl2 : decide (i < s.size) = false := by simp; omega
        have hl3 : decide ((i : Int) < (s.size : Int)) = false := by simp; omega
        have hl1 : ¬ ((i : Int) < (s.size : Int)) := by omega
        have HIM := As.mk him
        clear him
        go_wp2
        refine wp_region_held_drew (S := (fun v => v.cell? ⟨tb, 0, none⟩ = some (.string s) ∧ v.cell? ⟨tb, 1, none⟩ = some (.int .i64 i))) (by kernel_rfl) ?_ (fun hHeld => ?_)
        · exact ⟨c0d, c1d⟩
        refine zH 0 ?_
        refine zH 1 ?_
        (try simp only [Act.put, sA, sB, sC])
        refine zH 2 ?_
        refine zH 3 ?_
        refine zH 4 ?_
        refine zH 5 ?_
        (try simp only [Act.put, sA, sB, sC])
        refine zH 6 ?_
        refine zH 7 ?_
        refine zH 8 ?_
        refine zH 9 ?_
        (try simp only [Act.put, sA, sB, sC])
        refine zH 10 ?_
        refine sH 11 ?_
        refine sH 12 ?_
        refine sH 13 ?_
        (try simp only [Act.put, sA, sB, sC])
        refine sH 14 ?_
        refine sH 15 ?_
        refine sH 16 ?_
        refine sH 17 ?_
        (try simp only [Act.put, sA, sB, sC])
        refine sH 18 ?_
        refine sH 19 ?_
        refine sH 20 ?_
        refine sH 21 ?_
        (try simp only [Act.put, sA, sB, sC])
        refine sH 22 ?_
        refine sH 23 ?_
        refine sH 24 ?_
        refine sH 25 ?_
        (try simp only [Act.put, sA, sB, sC])
        refine zH 26 ?_
        refine wpAnyH_done (by kernel_rfl) ?_ _
        have HW9 := As.mk (Upd.refl (fun _ => False) wr)
        obtain ⟨⟨n0, n1⟩, nf1, ntb⟩ := (HP.out.1.pure HW9.out).cells
        have hrb : wr.heap[w.heap.size]? = some (.cells #[.int .i64 0, .string ⟨#[]⟩, .slice none 0 0] 92 (0, 0)) := ((HW9.out.block _ (by have := HP.out.2.size; have := (Array.getElem?_eq_some_iff.1 HRB.out).1; omega) (fun h => h)).trans (HP.out.2.block _ (Array.getElem?_eq_some_iff.1 HRB.out).1 (by omega))).trans HRB.out
        obtain ⟨⟨r0, r1, r2⟩, ⟨rf0, rf1, rf2⟩, hrl⟩ := cells3P hrb
        have n0d : wr.drew.drew.cell? ⟨tb, 0, none⟩ = some (.string s) := n0
        have n1d : wr.drew.drew.cell? ⟨tb, 1, none⟩ = some (.int .i64 i) := n1
        have hne : ¬ tb = w.heap.size := by omega
        go_wp2
        refine wp_region_T (P := Tryz.prog) (fun v => (v.cell? ⟨tb, 0, none⟩ = some (.string s) ∧ v.cell? ⟨tb, 1, none⟩ = some (.int .i64 i)) ∧ v.frozen? ⟨w.heap.size, 0, none⟩ = false ∧ v.frozen? ⟨w.heap.size, 1, none⟩ = false ∧ v.frozen? ⟨w.heap.size, 2, none⟩ = false) 12 (by kernel_rfl) ?_ (fun hHeld => ?_)
        · first | exact ⟨⟨((set3U _ w.heap.size _ _ _).cell ntb hne).trans n0d, ((set3U _ w.heap.size _ _ _).cell ntb hne).trans n1d⟩, by simp [World.frozen?_setCell, rf0], by simp [World.frozen?_setCell, rf1], by simp [World.frozen?_setCell, rf2]⟩ | exact ⟨⟨n0d, n1d⟩, rf0, rf1, rf2⟩
        refine zT 0 ?_
        refine zT 1 ?_
        refine zT 2 ?_
        (try simp only [Act.put, sA, sB, sC])
        refine zT 3 ?_
        refine zT 4 ?_
        refine zT 5 ?_
        refine zT 6 ?_
        (try simp only [Act.put, sA, sB, sC])
        refine zT 7 ?_
        refine zT 8 ?_
        refine zT 9 ?_
        refine zT 10 ?_
        (try simp only [Act.put, sA, sB, sC])
        refine oT 11 (fun K hK => ?_)
        go_simp
        refine hK.out _ _ (fun _ => by first | exact ⟨⟨((set3U _ w.heap.size _ _ _).cell ntb hne).trans n0d, ((set3U _ w.heap.size _ _ _).cell ntb hne).trans n1d⟩, by simp [World.frozen?_setCell, rf0], by simp [World.frozen?_setCell, rf1], by simp [World.frozen?_setCell, rf2]⟩ | exact ⟨⟨n0d, n1d⟩, rf0, rf1, rf2⟩) (fun hHeld => ?_)
        replace hHeld := hHeld (by decide)
        clear hK K
        (try simp only [Act.put, sA, sB, sC])
        refine oT 12 (fun K hK => ?_)
        go_simp
        refine hK.out _ _ (fun h => absurd rfl h) (fun hHeld => ?_)
        clear hK K
        (try simp only [Act.put, sA, sB, sC])
        refine wpAnyT_done (by kernel_rfl) ?_ _
        go_wp2
        exact bodyPost_ret (v := .tuple #[.agg #[.int .i64 1, .string (s.extract k i), .slice none 0 0], .nilIface]) (by simp [results, Tryz.results220, go_sem, r0, r1, r2, rf0, rf1, rf2]) rfl ⟨by rw [HIM.out], by
          have hT := HP.out.1.pure HW9.out
          unfold TB at hT ⊢
          rw [← HIM.out]
          exact (((set3U _ w.heap.size _ _ _).drew).block _ ntb hne).trans hT, by
          refine Upd.trans (S' := fun q => q = w.heap.size) (((hT1.trans HU1.out (fun _ _ h => h)).mono (fun _ _ h => h.elim)).trans (HP.out.2.trans HW9.out (fun _ _ h => h.elim)) (fun q hq h => h)) ?_ (fun q hq h => absurd h (by omega))
          first | exact (set3U _ w.heap.size _ _ _).drew | exact ((set3U _ w.heap.size _ _ _).drew).drew⟩
end Go.Proofs.YtofjodppljnlaaaGreatDoor
namespace Go.Proofs.YtofjodppljnlaaaGreatDoor
open Go.RowKit
set_option linter.unusedVariables false
set_option linter.unusedSimpArgs false
set_option maxRecDepth 100000 in
set_option maxHeartbeats 4000000 in
theorem sign_is {c kk : Int} (h : (c = 42 ∧ kk = 4) ∨ (c = 43 ∧ kk = 5) ∨ (c = 63 ∧ kk = 6) ∨ (c = 0 ∧ kk = 0)) (w : World) : Calls Tryz.prog 221 #[.int .u8 c] w fun r w' => r = .returned (.int .i64 kk) ∧ w = w' := by
  rcases h with ⟨rfl, rfl⟩ | ⟨rfl, rfl⟩ | ⟨rfl, rfl⟩ | ⟨rfl, rfl⟩
  all_goals
    go_enter Tryz.func221, Tryz.ntmps221
    go_wp2
    go_ret
    exact ⟨rfl, rfl⟩
/-- A text: a name, and one sign. -/
structure NameSign (s : ByteArray) (m : Nat) (kk : Int) : Prop where
  nm : NameIn s 0 m
  len : m + 1 = s.size
  sg : ∀ h : m < s.size, ((s[m].toNat : Int) = 42 ∧ kk = 4) ∨ ((s[m].toNat : Int) = 43 ∧ kk = 5) ∨ ((s[m].toNat : Int) = 63 ∧ kk = 6)
  nb : nameB (s.extract 0 m) = true
  c0 : ∀ h : 0 < s.size, (s[0] == 40) = false ∧ (s[0] == 32) = false ∧ 1 ≤ s[0].toNat
/-- A name in a block of its own. -/
abbrev NameB (w : World) (nb : Nat) (nm : ByteArray) : Prop := w.heap[nb]? = some (.cells #[.int .i64 1, .string nm, .slice none 0 0] 92 (0, 0))
/-- What lies there behind the sign. -/
structure PartR (w : World) (tb : Nat) (s : ByteArray) (m : Nat) (kk : Int) (eb nb : Nat) (wr : World) : Prop where
  ht : TB wr tb s s.size
  nm : NameB wr nb (s.extract 0 m)
  le : w.heap.size < nb
  eb : wr.heap[eb]? = some (.cells #[.int .i64 kk, .string ⟨#[]⟩, .slice (some ⟨nb, 0, none⟩) 1 1] 92 (0, 0))
  rb : wr.heap[w.heap.size]? = some (.cells #[.int .i64 0, .string ⟨#[]⟩, .slice none 0 0] 92 (0, 0))
  up : Upd (fun q => q = tb) w wr
theorem part_step {w2 : World} {tb eb m : Nat} {s : ByteArray} {kk : Int} {x0 x1 x2 : Value} (hT : TB (w2.setCell ⟨tb, 1, none⟩ (.int .i64 (m : Nat))) tb s m) (he : w2.heap[eb]? = some (.cells #[x0, x1, x2] 92 (0, 0))) (hne : tb ≠ eb) (nm : ByteArray) :
    TB (((((w2.setCell ⟨tb, 1, none⟩ (.int .i64 (m : Nat))).setCell ⟨eb, 0, none⟩ (.int .i64 kk)).setCell ⟨eb, 1, none⟩ (.string ⟨#[]⟩)).setCell ⟨eb, 2, none⟩ (.slice (some ⟨w2.heap.size, 0, none⟩) 1 1)).alloc (.cells #[.int .i64 1, .string nm, .slice none 0 0] 92)) tb s m ∧
    NameB (((((w2.setCell ⟨tb, 1, none⟩ (.int .i64 (m : Nat))).setCell ⟨eb, 0, none⟩ (.int .i64 kk)).setCell ⟨eb, 1, none⟩ (.string ⟨#[]⟩)).setCell ⟨eb, 2, none⟩ (.slice (some ⟨w2.heap.size, 0, none⟩) 1 1)).alloc (.cells #[.int .i64 1, .string nm, .slice none 0 0] 92)) w2.heap.size nm ∧
    (((((w2.setCell ⟨tb, 1, none⟩ (.int .i64 (m : Nat))).setCell ⟨eb, 0, none⟩ (.int .i64 kk)).setCell ⟨eb, 1, none⟩ (.string ⟨#[]⟩)).setCell ⟨eb, 2, none⟩ (.slice (some ⟨w2.heap.size, 0, none⟩) 1 1)).alloc (.cells #[.int .i64 1, .string nm, .slice none 0 0] 92)).heap[eb]? = some (.cells #[.int .i64 kk, .string ⟨#[]⟩, .slice (some ⟨w2.heap.size, 0, none⟩) 1 1] 92 (0, 0)) ∧
    Upd (fun q => q = tb ∨ q = eb) w2 (((((w2.setCell ⟨tb, 1, none⟩ (.int .i64 (m : Nat))).setCell ⟨eb, 0, none⟩ (.int .i64 kk)).setCell ⟨eb, 1, none⟩ (.string ⟨#[]⟩)).setCell ⟨eb, 2, none⟩ (.slice (some ⟨w2.heap.size, 0, none⟩) 1 1)).alloc (.cells #[.int .i64 1, .string nm, .slice none 0 0] 92)) := by
  have hebl := (Array.getElem?_eq_some_iff.1 he).1
  have hu3 := set3U (w2.setCell ⟨tb, 1, none⟩ (.int .i64 (m : Nat))) eb (.int .i64 kk) (.string ⟨#[]⟩) (.slice (some ⟨w2.heap.size, 0, none⟩) 1 1)
  have hu1 : Upd (fun q => q = tb) w2 (w2.setCell ⟨tb, 1, none⟩ (.int .i64 (m : Nat))) := Upd.setCell1 (S := fun q => q = tb) w2 (p := ⟨tb, 1, none⟩) rfl _
  have he1 := (hu1.block eb hebl (fun h => hne h.symm)).trans he
  have hsz : (w2.setCell ⟨tb, 1, none⟩ (.int .i64 (m : Nat))).heap.size = w2.heap.size := by simp [World.setCell]
  refine ⟨?_, ?_, ?_, ?_⟩
  · exact (Below.heap_alloc _ _ _ (by have := hT.cells.2.2; have := hu3.size; omega)).trans ((hu3.block tb hT.cells.2.2 hne).trans hT)
  · have := heap_alloc_new ((((w2.setCell ⟨tb, 1, none⟩ (.int .i64 (m : Nat))).setCell ⟨eb, 0, none⟩ (.int .i64 kk)).setCell ⟨eb, 1, none⟩ (.string ⟨#[]⟩)).setCell ⟨eb, 2, none⟩ (.slice (some ⟨w2.heap.size, 0, none⟩) 1 1)) (.cells #[.int .i64 1, .string nm, .slice none 0 0] 92)
    rw [show ((((w2.setCell ⟨tb, 1, none⟩ (.int .i64 (m : Nat))).setCell ⟨eb, 0, none⟩ (.int .i64 kk)).setCell ⟨eb, 1, none⟩ (.string ⟨#[]⟩)).setCell ⟨eb, 2, none⟩ (.slice (some ⟨w2.heap.size, 0, none⟩) 1 1)).heap.size = w2.heap.size by simp [World.setCell]] at this
    exact this
  · refine (Below.heap_alloc _ _ _ (by have := hu3.size; omega)).trans ?_
    simp [World.setCell, Array.getElem?_modify] at he1 ⊢
    simp [he1]
  · exact (hu1.mono (fun _ _ h => .inl h)).trans (hu3.alloc _) (fun _ _ h => .inr h)
set_option maxRecDepth 100000 in
set_option maxHeartbeats 4000000 in
theorem part_name {w : World} {tb m : Nat} {s : ByteArray} {kk : Int} (h : TB w tb s 0) (hn : NameSign s m kk) :
    Calls Tryz.prog 217 #[.pointer (some ⟨tb, 0, none⟩)] w fun r w' => ∃ nb, r = .returned (.tuple #[.agg #[.int .i64 kk, .string ⟨#[]⟩, .slice (some ⟨nb, 0, none⟩) 1 1], .nilIface]) ∧ NameB w' nb (s.extract 0 m) ∧ w.heap.size ≤ nb ∧ TB w' tb s s.size ∧ Upd (fun q => q = tb) w w' := by
  have HN := As.mk hn
  have hms := hn.nm.le
  have hm0 := hn.nm.lt
  have hlen := hn.len
  have hsm := hn.nm.small
  have htb := h.cells.2.2
  have hT1 : Pure w (w.alloc (.cells #[.int .i64 0, .string ⟨#[]⟩, .slice none 0 0] 92)) := Upd.alloc1 _ _ _
  obtain ⟨a1, a2, a3⟩ := hn.c0 (by omega)
  have HAT := As.mk (atom_name (h.pure hT1) hn.nm (by omega) a1 a2 a3)
  have hsgn := hn.sg (by omega)
  have HT1 := As.mk hT1
  obtain ⟨cm, hcm⟩ : ∃ c : Int, c = (s[m]'(by omega)).toNat := ⟨_, rfl⟩
  rw [← hcm] at hsgn
  have hc32 : ((s[m]'(by omega)) == 32) = false := by
    rw [beq_eq_false_iff_ne]
    intro e
    rw [e] at hcm
    have : cm = 32 := hcm
    omega
  have HNA := As.mk (fun (W : World) (hT : TB W tb s m) => next_at hT (by omega : m < s.size) hc32 (by omega) hsm)
  have HNE := As.mk (fun (W : World) (hT : TB W tb s s.size) => next_end hT hsm)
  have HSG := As.mk (fun W => sign_is (c := cm) (kk := kk) (by omega) W)
  have HS0 := As.mk (fun W => sign_is (c := 0) (kk := 0) (by omega) W)
  have HCM := As.mk hcm
  have hkk : (kk == 0) = false := by simp; omega
  clear h hn hT1 a1 a2 a3 hcm hc32 hsgn
  go_enter Tryz.func217, Tryz.ntmps217
  go_wp2_with (go_at_call 220; refine HAT.out.mono ?_; rintro e w1 ⟨rfl, hT, hu⟩; have HTB := As.mk hT; have HU1 := As.mk hu; clear hT hu; apply As.out)
  refine ⟨?_⟩
  have hz1 := HU1.out.size
  have hrb1 := (HU1.out.block w.heap.size (by simp) (by omega)).trans (heap_alloc_new w _)
  have HRB := As.mk hrb1
  simp at hz1
  have hp01 : Upd (fun q => q = tb) w w1 := (HT1.out.mono (fun _ _ h => h.elim)).trans HU1.out (fun q hq h => h)
  have HP01 := As.mk hp01
  clear hrb1 hp01
  have hne1 : ¬ tb = w1.heap.size := by omega
  have hne2 : ¬ w.heap.size = w1.heap.size := by omega
  have hne3 : ¬ w1.heap.size = tb := by omega
  have hm1 : IntKind.i64.wrap ((m : Int) + 1) = (m : Int) + 1 := by rw [IntKind.wrap_i64]; omega
  go_wp2
  go_loopg [] 1 (fun g wr => (g = 1 ∧ As (wr = w1.alloc (.cells #[.int .i64 1, .string (s.extract 0 m), .slice none 0 0] 92))) ∨ (g = 0 ∧ ∃ nb, As (PartR w tb s m kk w1.heap.size nb wr)))
  case atStart => exact .inl ⟨rfl, ⟨rfl⟩⟩
  case round =>
    rcases hrel with ⟨rfl, HW⟩ | ⟨rfl, nb, HR⟩
    · obtain rfl := HW.out
      have heb := heap_alloc_new w1 (.cells #[.int .i64 1, .string (s.extract 0 m), .slice none 0 0] 92)
      have HEB := As.mk heb
      have HTW := As.mk (HTB.out.pure (Upd.alloc1 (fun _ => False) w1 (.cells #[.int .i64 1, .string (s.extract 0 m), .slice none 0 0] 92)))
      clear heb
      go_wp2_with (go_at_call 179; refine (HNA.out _ HTW.out).mono ?_; rintro e w2 ⟨rfl, hu⟩; rw [← HCM.out]; have HU2 := As.mk hu; clear hu; apply As.out)
      refine ⟨?_⟩
      obtain ⟨⟨c0, c1⟩, f1, htb2⟩ := (HTW.out.pure HU2.out).cells
      have hz2 := HU2.out.size
      simp at hz2
      have heb2 := (HU2.out.block w1.heap.size (by simp) (fun h => h)).trans HEB.out
      obtain ⟨⟨e0, e1, e2⟩, ⟨ef0, ef1, ef2⟩, hel⟩ := cells3P heb2
      have HEB2 := As.mk heb2
      clear heb2
      go_wp2_with (go_at_call 221; refine (HSG.out _).mono ?_; rintro e w3 ⟨rfl, rfl⟩)
      go_roundg 0
      case measure => omega
      case rel =>
        have hT3 := (HTW.out.pure HU2.out).set (m + 1)
        have hrb2 := (HU2.out.block w.heap.size (by simp; omega) (fun h => h)).trans ((Below.heap_alloc w1 _ w.heap.size (by omega)).trans HRB.out)
        have hup2 : Upd (fun q => q = tb) w w2 := HP01.out.trans ((Upd.alloc1 (fun _ => False) w1 _).trans HU2.out (fun _ _ h => h)) (fun _ _ h => h.elim)
        have hstep := part_step (kk := kk) hT3 (HEB2.out) (by omega : tb ≠ w1.heap.size) (s.extract 0 m)
        have hz5 : (((((w2.setCell ⟨tb, 1, none⟩ (.int .i64 ((m + 1 : Nat) : Int))).setCell ⟨w1.heap.size, 0, none⟩ (.int .i64 kk)).setCell ⟨w1.heap.size, 1, none⟩ (.string ⟨#[]⟩)).setCell ⟨w1.heap.size, 2, none⟩ (.slice (some ⟨w2.heap.size, 0, none⟩) 1 1))).heap.size = w2.heap.size := by simp [World.setCell]
        obtain ⟨p1, p2, p3, p4⟩ := hstep
        refine .inr ⟨rfl, w2.heap.size, ⟨⟨by rw [← hlen]; exact p1, p2, by omega, p3, ?_, ?_⟩⟩⟩
        · exact (p4.block w.heap.size (by omega) (by omega)).trans hrb2
        · exact hup2.trans p4 (fun q hq h => by omega)
    · have HTW := As.mk HR.out.ht
      go_wp2_with (go_at_call 179; refine (HNE.out _ HTW.out).mono ?_; rintro e w2 ⟨rfl, hu⟩; have HU2 := As.mk hu; clear hu; apply As.out)
      refine ⟨?_⟩
      have heb2 := (HU2.out.block w1.heap.size (Array.getElem?_eq_some_iff.1 HR.out.eb).1 (fun h => h)).trans HR.out.eb
      obtain ⟨⟨e0, e1, e2⟩, ⟨ef0, ef1, ef2⟩, hel⟩ := cells3P heb2
      have hrb2 := (HU2.out.block w.heap.size (Array.getElem?_eq_some_iff.1 HR.out.rb).1 (fun h => h)).trans HR.out.rb
      obtain ⟨⟨r0, r1, r2⟩, ⟨rf0, rf1, rf2⟩, hrl⟩ := cells3P hrb2
      clear heb2 hrb2
      go_wp2_with (go_at_call 221; refine (HS0.out _).mono ?_; rintro e w3 ⟨rfl, rfl⟩)
      exact bodyPost_ret (v := .tuple #[.agg #[.int .i64 kk, .string ⟨#[]⟩, .slice (some ⟨nb, 0, none⟩) 1 1], .nilIface]) (by simp [results, Tryz.results217, go_sem, r0, r1, r2, rf0, rf1, rf2]) rfl ⟨nb, rfl, by
          have hnb := (Array.getElem?_eq_some_iff.1 HR.out.nm).1
          exact (((set3U w2 w.heap.size _ _ _).block nb (Nat.lt_of_lt_of_le hnb HU2.out.size) (by have := HR.out.le; omega)).trans ((HU2.out.block nb hnb (fun h => h)).trans HR.out.nm)), by have := HR.out.le; omega, by
          have hT := HR.out.ht.pure HU2.out
          exact ((set3U w2 w.heap.size _ _ _).block tb hT.cells.2.2 (by omega)).trans hT, (HR.out.up.trans HU2.out (fun _ _ h => h.elim)).trans (set3U w2 w.heap.size _ _ _) (fun q hq h => absurd h (by omega))⟩
end Go.Proofs.YtofjodppljnlaaaGreatDoor
namespace Go.Proofs.YtofjodppljnlaaaGreatDoor
open Go.RowKit
set_option linter.unusedVariables false
set_option linter.unusedSimpArgs false
theorem ex_info : (Tryz.prog.info? 92).map (fun i => (i.zero, i.size, i.bytes)) = some (some (.agg #[.int .i64 0, .string ⟨#[]⟩, .slice none 0 0]), 3, 48) := by kernel_rfl
/-- What a name with a sign gives. -/
abbrev PartPost (w : World) (tb : Nat) (s : ByteArray) (m : Nat) (kk : Int) (r : Ending) (w' : World) : Prop := ∃ nb, r = .returned (.tuple #[.agg #[.int .i64 kk, .string ⟨#[]⟩, .slice (some ⟨nb, 0, none⟩) 1 1], .nilIface]) ∧ NameB w' nb (s.extract 0 m) ∧ w.heap.size ≤ nb ∧ TB w' tb s s.size ∧ Upd (fun q => q = tb) w w'
theorem name_row {w : World} {nb : Nat} {nm : ByteArray} {F : Nat → Prop} (h : NameB w nb nm) (hF : F nb) : exR.row w F (some ⟨nb, 0, none⟩) [.mk 1 nm []] :=
  Rp.row_of_block h hF (Reps.single (R := exR.rep _ _) (size := exR.sz) (ExRep.of_parts (l := []) (Nat.le_refl _) (.inl rfl)) rfl)
theorem name_rep {w : World} {nb : Nat} {nm : ByteArray} {F : Nat → Prop} {kk : Int} (h : NameB w nb nm) (hF : F nb) : exR.rep w F (.mk kk ⟨#[]⟩ [.mk 1 nm []]) [.int .i64 kk, .string ⟨#[]⟩, .slice (some ⟨nb, 0, none⟩) 1 1] :=
  ExRep.of_parts (l := [.mk 1 nm []]) (Nat.le_refl _) (name_row h hF)
set_option maxRecDepth 100000 in
set_option maxHeartbeats 4000000 in
theorem moreRow {w : World} {tb mb : Nat} {s : ByteArray} (h : TB w tb s s.size) (hc : w.cell? ⟨mb, 0, none⟩ = some (.pointer (some ⟨tb, 0, none⟩))) (hs : s.size ≤ 1000) :
    Calls Tryz.prog 218 #[.pointer (some ⟨mb, 0, none⟩)] w fun r w' => r = .returned (.bool false) ∧ Pure w w' := by
  have HN := As.mk (next_end h hs)
  clear h
  go_enter Tryz.func218, Tryz.ntmps218
  go_wp2_with (go_at_call 179; refine HN.out.mono ?_; rintro e w1 ⟨rfl, hu⟩)
  go_ret
  exact ⟨rfl, hu⟩
set_option maxRecDepth 100000 in
set_option maxHeartbeats 4000000 in
theorem moreChoice {w : World} {tb mb : Nat} {s : ByteArray} (h : TB w tb s s.size) (hc : w.cell? ⟨mb, 0, none⟩ = some (.pointer (some ⟨tb, 0, none⟩))) (hs : s.size ≤ 1000) :
    Calls Tryz.prog 209 #[.pointer (some ⟨mb, 0, none⟩)] w fun r w' => r = .returned (.bool false) ∧ Pure w w' := by
  have HN := As.mk (next_end h hs)
  clear h
  go_enter Tryz.func209, Tryz.ntmps209
  go_wp2_with (go_at_call 179; refine HN.out.mono ?_; rintro e w1 ⟨rfl, hu⟩)
  go_ret
  exact ⟨rfl, hu⟩
set_option maxRecDepth 100000 in
set_option maxHeartbeats 4000000 in
theorem someRow {w : World} {tb m mb : Nat} {s : ByteArray} {kk : Int} (h : TB w tb s 0) (hn : NameSign s m kk) (hc : w.cell? ⟨mb, 0, none⟩ = some (.pointer (some ⟨tb, 0, none⟩))) (hmb : mb < w.heap.size) (hne : mb ≠ tb) :
    Calls Tryz.prog 208 #[.pointer (some ⟨tb, 0, none⟩), .int .i64 2, .func (.func 217) #[.pointer (some ⟨tb, 0, none⟩)] #[], .func (.func 218) #[] #[.pointer (some ⟨mb, 0, none⟩)]] w (PartPost w tb s m kk) := by
  have hsm := hn.nm.small
  have hsgn := hn.sg (by have := hn.len; omega)
  have htb := h.cells.2.2
  have hkk : (kk == 2) = false := by simp; omega
  have hT1 : Pure w ((w.alloc (.cells #[.int .i64 0, .string ⟨#[]⟩, .slice none 0 0] 92)).alloc (.cells #[.int .i64 2, .string ⟨#[]⟩, .slice none 0 0] 92)) := (Upd.alloc1 _ _ _).alloc _
  have HT1 := As.mk hT1
  have HPT := As.mk (part_name (h.pure hT1) hn)
  have hrb0 := (Below.heap_alloc (w.alloc (.cells #[.int .i64 0, .string ⟨#[]⟩, .slice none 0 0] 92)) (.cells #[.int .i64 2, .string ⟨#[]⟩, .slice none 0 0] 92) w.heap.size (by simp)).trans (heap_alloc_new w _)
  have hkb0 := heap_alloc_new (w.alloc (.cells #[.int .i64 0, .string ⟨#[]⟩, .slice none 0 0] 92)) (.cells #[.int .i64 2, .string ⟨#[]⟩, .slice none 0 0] 92)
  rw [show (w.alloc (.cells #[.int .i64 0, .string ⟨#[]⟩, .slice none 0 0] 92)).heap.size = w.heap.size + 1 by simp] at hkb0
  have HRB := As.mk hrb0
  have HKB := As.mk hkb0
  have HMR := As.mk (fun (W : World) (h : TB W tb s s.size) (hc : W.cell? ⟨mb, 0, none⟩ = some (.pointer (some ⟨tb, 0, none⟩))) => moreRow h hc hsm)
  have HC := As.mk hc
  clear h hn hT1 hrb0 hkb0 hsgn hc
  go_enter Tryz.func208, Tryz.ntmps208
  go_wp2
  go_loopg [11] 0 (fun g n wr => n = .int .i64 0 ∧ As (wr = (w.alloc (.cells #[.int .i64 0, .string ⟨#[]⟩, .slice none 0 0] 92)).alloc (.cells #[.int .i64 2, .string ⟨#[]⟩, .slice none 0 0] 92)))
  case atStart => exact ⟨rfl, ⟨rfl⟩⟩
  case round =>
    obtain ⟨rfl, HW⟩ := hrel
    obtain rfl := HW.out
    go_wp2_with (go_at_call 217; refine HPT.out.mono ?_; rintro e w1 ⟨nb, rfl, hnm, hnb, hT, hu⟩; have HNM := As.mk hnm; have HT := As.mk hT; have HU1 := As.mk hu; clear hnm hT hu; apply As.out)
    refine ⟨?_⟩
    simp at hnb
    have hz1 := HU1.out.size
    simp at hz1
    have hnbl := (Array.getElem?_eq_some_iff.1 HNM.out).1
    have hrb1 := (HU1.out.block w.heap.size (by simp; omega) (by omega)).trans HRB.out
    have hkb1 := (HU1.out.block (w.heap.size + 1) (by simp) (by omega)).trans HKB.out
    have HRB1 := As.mk hrb1
    have HKB1 := As.mk hkb1
    obtain ⟨⟨r0, r1, r2⟩, ⟨rf0, rf1, rf2⟩, hrl⟩ := cells3P hrb1
    obtain ⟨⟨k0, k1, k2⟩, ⟨kf0, kf1, kf2⟩, hkl⟩ := cells3P hkb1
    have HP3 : As (Upd (fun q => q = tb) w w1) := ⟨(HT1.out.mono (fun _ _ h => h.elim)).trans HU1.out (fun _ _ h => h)⟩
    have HEB := As.mk (heap_alloc_new w1 (.cells #[.int .i64 kk, .string ⟨#[]⟩, .slice (some ⟨nb, 0, none⟩) 1 1] 92))
    clear hrb1 hkb1
    have HREP : As (exR.rep (w1.alloc (.cells #[.int .i64 kk, .string ⟨#[]⟩, .slice (some ⟨nb, 0, none⟩) 1 1] 92)) (fun q => q = nb) (.mk kk ⟨#[]⟩ [.mk 1 (s.extract 0 m) []]) [.int .i64 kk, .string ⟨#[]⟩, .slice (some ⟨nb, 0, none⟩) 1 1]) := ⟨name_rep ((Below.heap_alloc w1 _ nb hnbl).trans HNM.out) rfl⟩
    go_wp2_with (at_builtin; refine Rp.own_append exR (Rp.own_nil exR _ _ (fun _ => False)) _ _ HREP.out (G := fun _ => True) (fun _ _ _ => ⟨trivial, by simp [Value.ownBlock]⟩) (fun _ h => h.elim) (fun _ _ => trivial) rfl _ _ 90 _ 48 rfl Tryz.underlying90 ex_info rfl (by decide) (by decide) rfl (by simp [Act.eval]) (by simp) ?_; intro v1 w2 ho1 hu1; have HO1 := As.mk ho1; have HU2 := As.mk (show Pure (w1.alloc (.cells #[.int .i64 kk, .string ⟨#[]⟩, .slice (some ⟨nb, 0, none⟩) 1 1] 92)) w2 from hu1.mono (fun _ _ h => by simp [Value.ownBlock] at h)); clear ho1 hu1; apply As.out)
    refine ⟨?_⟩
    obtain ⟨A2, c2, rfl, _, _⟩ := Rp.own_slice HO1.out
    have hz2 := HU2.out.size
    simp at hz2
    clear r0 r1 r2 rf0 rf1 rf2 k0 k1 k2 kf0 kf1 kf2
    have hP2 : Pure w1 w2 := (Upd.alloc1 (fun _ => False) w1 _).trans HU2.out (fun _ _ h => h)
    have hrb2 := (hP2.block w.heap.size (by omega) (fun h => h)).trans HRB1.out
    have hkb2 := (hP2.block (w.heap.size + 1) (by omega) (fun h => h)).trans HKB1.out
    have heb2 := (HU2.out.block w1.heap.size (by simp) (fun h => h)).trans HEB.out
    have HT2 := As.mk (HT.out.pure hP2)
    have hc2 : w2.cell? ⟨mb, 0, none⟩ = some (.pointer (some ⟨tb, 0, none⟩)) := (hP2.cell (by omega) (fun h => h)).trans ((HP3.out.cell (by omega) (by omega)).trans HC.out)
    have hne1 : ¬ tb = w.heap.size + 1 := by omega
    have hne2 : ¬ mb = w.heap.size + 1 := by omega
    have HT3 : As (∀ u, TB (w2.setCell ⟨w.heap.size + 1, 2, none⟩ u) tb s s.size) := ⟨fun u => (Below.heap_setCell w2 ⟨w.heap.size + 1, 2, none⟩ u tb hne1).trans HT2.out⟩
    have HC3 : As (∀ u, (w2.setCell ⟨w.heap.size + 1, 2, none⟩ u).cell? ⟨mb, 0, none⟩ = some (.pointer (some ⟨tb, 0, none⟩))) := ⟨fun u => (World.cell?_of_block (Below.heap_setCell w2 ⟨w.heap.size + 1, 2, none⟩ u mb hne2)).trans hc2⟩
    have HRB2 := As.mk hrb2
    have HEB2 := As.mk heb2
    have HP12 := As.mk hP2
    have HNM2 : As (NameB w2 nb (s.extract 0 m)) := ⟨(hP2.block nb hnbl (fun h => h)).trans HNM.out⟩
    obtain ⟨⟨k0, k1, k2⟩, ⟨kf0, kf1, kf2⟩, hkl⟩ := cells3P hkb2
    clear hrb2 hkb2 heb2 hP2 hc2
    go_wp2_with (go_at_call 218; refine (HMR.out _ (HT3.out _) (HC3.out _)).mono ?_; rintro e w4 ⟨rfl, hu⟩; have HU4 := As.mk (show Pure (w2.setCell ⟨w.heap.size + 1, 2, none⟩ _) w4 from hu); clear hu; apply As.out)
    refine ⟨?_⟩
    have hsz3 : ∀ u, (w2.setCell ⟨w.heap.size + 1, 2, none⟩ u).heap.size = w2.heap.size := fun u => by simp [World.setCell]
    have hU24 : Upd (fun q => q = w.heap.size + 1) w2 w4 := (Upd.setCell1 (S := fun q => q = w.heap.size + 1) w2 (p := ⟨w.heap.size + 1, 2, none⟩) rfl _).trans HU4.out (fun _ _ h => h.elim)
    have hrb4 := (hU24.block w.heap.size (Array.getElem?_eq_some_iff.1 HRB2.out).1 (by omega)).trans HRB2.out
    have heb4 := (hU24.block w1.heap.size (Array.getElem?_eq_some_iff.1 HEB2.out).1 (by omega)).trans HEB2.out
    obtain ⟨⟨r0, r1, r2⟩, ⟨rf0, rf1, rf2⟩, hrl⟩ := cells3P hrb4
    obtain ⟨⟨e0, e1, e2⟩, ⟨ef0, ef1, ef2⟩, hel⟩ := cells3P heb4
    have HU24 := As.mk hU24
    clear k0 k1 k2 kf0 kf1 kf2 hrb4 heb4 hU24
    go_wp2
    exact bodyPost_ret (v := .tuple #[.agg #[.int .i64 kk, .string ⟨#[]⟩, .slice (some ⟨nb, 0, none⟩) 1 1], .nilIface]) (by simp [results, Tryz.results208, go_sem, r0, r1, r2, rf0, rf1, rf2]) rfl ⟨nb, rfl, by
        have hnb2 := (Array.getElem?_eq_some_iff.1 HNM2.out).1
        exact ((set3U w4 w.heap.size _ _ _).block nb (Nat.lt_of_lt_of_le hnb2 HU24.out.size) (by omega)).trans ((HU24.out.block nb hnb2 (by omega)).trans HNM2.out), by omega, by
        have hT4 : TB w4 tb s s.size := (HU24.out.block tb HT2.out.cells.2.2 (by omega)).trans HT2.out
        exact ((set3U w4 w.heap.size _ _ _).block tb hT4.cells.2.2 (by omega)).trans hT4, by
        exact (((HP3.out.trans HP12.out (fun _ _ h => h.elim)).trans HU24.out (fun q hq h => absurd h (by omega))).trans (set3U w4 w.heap.size _ _ _) (fun q hq h => absurd h (by omega)))⟩
set_option maxRecDepth 100000 in
set_option maxHeartbeats 4000000 in
theorem row_name {w : World} {tb m : Nat} {s : ByteArray} {kk : Int} (h : TB w tb s 0) (hn : NameSign s m kk) : Calls Tryz.prog 207 #[.pointer (some ⟨tb, 0, none⟩)] w (PartPost w tb s m kk) := by
  have hsm := hn.nm.small
  have htb := h.cells.2.2
  have hT1 : Pure w ((w.alloc (.cells #[.pointer (some ⟨tb, 0, none⟩)] 205)).alloc (.cells #[.int .i64 0, .string ⟨#[]⟩, .slice none 0 0] 92)) := (Upd.alloc1 _ _ _).alloc _
  have HT1 := As.mk hT1
  have hb0 := (Below.heap_alloc (w.alloc (.cells #[.pointer (some ⟨tb, 0, none⟩)] 205)) (.cells #[.int .i64 0, .string ⟨#[]⟩, .slice none 0 0] 92) w.heap.size (by simp)).trans (heap_alloc_new w _)
  have hc : ((w.alloc (.cells #[.pointer (some ⟨tb, 0, none⟩)] 205)).alloc (.cells #[.int .i64 0, .string ⟨#[]⟩, .slice none 0 0] 92)).cell? ⟨w.heap.size, 0, none⟩ = some (.pointer (some ⟨tb, 0, none⟩)) := by unfold World.cell?; simp only [hb0]; rfl
  have HSM := As.mk (someRow (mb := w.heap.size) (h.pure hT1) hn hc (by simp; omega) (by omega))
  have hrb0 := heap_alloc_new (w.alloc (.cells #[.pointer (some ⟨tb, 0, none⟩)] 205)) (.cells #[.int .i64 0, .string ⟨#[]⟩, .slice none 0 0] 92)
  rw [show (w.alloc (.cells #[.pointer (some ⟨tb, 0, none⟩)] 205)).heap.size = w.heap.size + 1 by simp] at hrb0
  have HRB := As.mk hrb0
  clear h hn hT1 hb0 hc hrb0
  go_enter Tryz.func207, Tryz.ntmps207
  go_wp2_with (go_at_call 208; refine HSM.out.mono ?_; rintro e w1 ⟨nb, rfl, hnm, hnb, hT, hu⟩; have HNM := As.mk hnm; have HT := As.mk hT; have HU1 := As.mk hu; clear hnm hT hu; apply As.out)
  refine ⟨?_⟩
  simp at hnb
  have hrb1 := (HU1.out.block (w.heap.size + 1) (by simp) (by omega)).trans HRB.out
  obtain ⟨⟨r0, r1, r2⟩, ⟨rf0, rf1, rf2⟩, hrl⟩ := cells3P hrb1
  clear hrb1
  go_wp2
  exact bodyPost_ret (v := .tuple #[.agg #[.int .i64 kk, .string ⟨#[]⟩, .slice (some ⟨nb, 0, none⟩) 1 1], .nilIface]) (by simp [results, Tryz.results207, go_sem, r0, r1, r2, rf0, rf1, rf2]) rfl ⟨nb, rfl, by
      have hnb2 := (Array.getElem?_eq_some_iff.1 HNM.out).1
      exact ((set3U w1 (w.heap.size + 1) _ _ _).block nb hnb2 (by omega)).trans HNM.out, by omega, by
      exact ((set3U w1 (w.heap.size + 1) _ _ _).block tb HT.out.cells.2.2 (by omega)).trans HT.out, by
      exact ((HT1.out.mono (fun _ _ h => h.elim)).trans HU1.out (fun _ _ h => h)).trans (set3U w1 (w.heap.size + 1) _ _ _) (fun q hq h => absurd h (by omega))⟩
set_option maxRecDepth 100000 in
set_option maxHeartbeats 4000000 in
theorem someChoice {w : World} {tb m mb : Nat} {s : ByteArray} {kk : Int} (h : TB w tb s 0) (hn : NameSign s m kk) (hc : w.cell? ⟨mb, 0, none⟩ = some (.pointer (some ⟨tb, 0, none⟩))) (hmb : mb < w.heap.size) (hne : mb ≠ tb) :
    Calls Tryz.prog 208 #[.pointer (some ⟨tb, 0, none⟩), .int .i64 3, .func (.func 207) #[.pointer (some ⟨tb, 0, none⟩)] #[], .func (.func 209) #[] #[.pointer (some ⟨mb, 0, none⟩)]] w (PartPost w tb s m kk) := by
  have hsm := hn.nm.small
  have hsgn := hn.sg (by have := hn.len; omega)
  have htb := h.cells.2.2
  have hkk : (kk == 3) = false := by simp; omega
  have hT1 : Pure w ((w.alloc (.cells #[.int .i64 0, .string ⟨#[]⟩, .slice none 0 0] 92)).alloc (.cells #[.int .i64 3, .string ⟨#[]⟩, .slice none 0 0] 92)) := (Upd.alloc1 _ _ _).alloc _
  have HT1 := As.mk hT1
  have HPT := As.mk (row_name (h.pure hT1) hn)
  have hrb0 := (Below.heap_alloc (w.alloc (.cells #[.int .i64 0, .string ⟨#[]⟩, .slice none 0 0] 92)) (.cells #[.int .i64 3, .string ⟨#[]⟩, .slice none 0 0] 92) w.heap.size (by simp)).trans (heap_alloc_new w _)
  have hkb0 := heap_alloc_new (w.alloc (.cells #[.int .i64 0, .string ⟨#[]⟩, .slice none 0 0] 92)) (.cells #[.int .i64 3, .string ⟨#[]⟩, .slice none 0 0] 92)
  rw [show (w.alloc (.cells #[.int .i64 0, .string ⟨#[]⟩, .slice none 0 0] 92)).heap.size = w.heap.size + 1 by simp] at hkb0
  have HRB := As.mk hrb0
  have HKB := As.mk hkb0
  have HMR := As.mk (fun (W : World) (h : TB W tb s s.size) (hc : W.cell? ⟨mb, 0, none⟩ = some (.pointer (some ⟨tb, 0, none⟩))) => moreChoice h hc hsm)
  have HC := As.mk hc
  clear h hn hT1 hrb0 hkb0 hsgn hc
  go_enter Tryz.func208, Tryz.ntmps208
  go_wp2
  go_loopg [11] 0 (fun g n wr => n = .int .i64 0 ∧ As (wr = (w.alloc (.cells #[.int .i64 0, .string ⟨#[]⟩, .slice none 0 0] 92)).alloc (.cells #[.int .i64 3, .string ⟨#[]⟩, .slice none 0 0] 92)))
  case atStart => exact ⟨rfl, ⟨rfl⟩⟩
  case round =>
    obtain ⟨rfl, HW⟩ := hrel
    obtain rfl := HW.out
    go_wp2_with (go_at_call 207; refine HPT.out.mono ?_; rintro e w1 ⟨nb, rfl, hnm, hnb, hT, hu⟩; have HNM := As.mk hnm; have HT := As.mk hT; have HU1 := As.mk hu; clear hnm hT hu; apply As.out)
    refine ⟨?_⟩
    simp at hnb
    have hz1 := HU1.out.size
    simp at hz1
    have hnbl := (Array.getElem?_eq_some_iff.1 HNM.out).1
    have hrb1 := (HU1.out.block w.heap.size (by simp; omega) (by omega)).trans HRB.out
    have hkb1 := (HU1.out.block (w.heap.size + 1) (by simp) (by omega)).trans HKB.out
    have HRB1 := As.mk hrb1
    have HKB1 := As.mk hkb1
    obtain ⟨⟨r0, r1, r2⟩, ⟨rf0, rf1, rf2⟩, hrl⟩ := cells3P hrb1
    obtain ⟨⟨k0, k1, k2⟩, ⟨kf0, kf1, kf2⟩, hkl⟩ := cells3P hkb1
    have HP3 : As (Upd (fun q => q = tb) w w1) := ⟨(HT1.out.mono (fun _ _ h => h.elim)).trans HU1.out (fun _ _ h => h)⟩
    have HEB := As.mk (heap_alloc_new w1 (.cells #[.int .i64 kk, .string ⟨#[]⟩, .slice (some ⟨nb, 0, none⟩) 1 1] 92))
    clear hrb1 hkb1
    have HREP : As (exR.rep (w1.alloc (.cells #[.int .i64 kk, .string ⟨#[]⟩, .slice (some ⟨nb, 0, none⟩) 1 1] 92)) (fun q => q = nb) (.mk kk ⟨#[]⟩ [.mk 1 (s.extract 0 m) []]) [.int .i64 kk, .string ⟨#[]⟩, .slice (some ⟨nb, 0, none⟩) 1 1]) := ⟨name_rep ((Below.heap_alloc w1 _ nb hnbl).trans HNM.out) rfl⟩
    go_wp2_with (at_builtin; refine Rp.own_append exR (Rp.own_nil exR _ _ (fun _ => False)) _ _ HREP.out (G := fun _ => True) (fun _ _ _ => ⟨trivial, by simp [Value.ownBlock]⟩) (fun _ h => h.elim) (fun _ _ => trivial) rfl _ _ 90 _ 48 rfl Tryz.underlying90 ex_info rfl (by decide) (by decide) rfl (by simp [Act.eval]) (by simp) ?_; intro v1 w2 ho1 hu1; have HO1 := As.mk ho1; have HU2 := As.mk (show Pure (w1.alloc (.cells #[.int .i64 kk, .string ⟨#[]⟩, .slice (some ⟨nb, 0, none⟩) 1 1] 92)) w2 from hu1.mono (fun _ _ h => by simp [Value.ownBlock] at h)); clear ho1 hu1; apply As.out)
    refine ⟨?_⟩
    obtain ⟨A2, c2, rfl, _, _⟩ := Rp.own_slice HO1.out
    have hz2 := HU2.out.size
    simp at hz2
    clear r0 r1 r2 rf0 rf1 rf2 k0 k1 k2 kf0 kf1 kf2
    have hP2 : Pure w1 w2 := (Upd.alloc1 (fun _ => False) w1 _).trans HU2.out (fun _ _ h => h)
    have hrb2 := (hP2.block w.heap.size (by omega) (fun h => h)).trans HRB1.out
    have hkb2 := (hP2.block (w.heap.size + 1) (by omega) (fun h => h)).trans HKB1.out
    have heb2 := (HU2.out.block w1.heap.size (by simp) (fun h => h)).trans HEB.out
    have HT2 := As.mk (HT.out.pure hP2)
    have hc2 : w2.cell? ⟨mb, 0, none⟩ = some (.pointer (some ⟨tb, 0, none⟩)) := (hP2.cell (by omega) (fun h => h)).trans ((HP3.out.cell (by omega) (by omega)).trans HC.out)
    have hne1 : ¬ tb = w.heap.size + 1 := by omega
    have hne2 : ¬ mb = w.heap.size + 1 := by omega
    have HT3 : As (∀ u, TB (w2.setCell ⟨w.heap.size + 1, 2, none⟩ u) tb s s.size) := ⟨fun u => (Below.heap_setCell w2 ⟨w.heap.size + 1, 2, none⟩ u tb hne1).trans HT2.out⟩
    have HC3 : As (∀ u, (w2.setCell ⟨w.heap.size + 1, 2, none⟩ u).cell? ⟨mb, 0, none⟩ = some (.pointer (some ⟨tb, 0, none⟩))) := ⟨fun u => (World.cell?_of_block (Below.heap_setCell w2 ⟨w.heap.size + 1, 2, none⟩ u mb hne2)).trans hc2⟩
    have HRB2 := As.mk hrb2
    have HEB2 := As.mk heb2
    have HP12 := As.mk hP2
    have HNM2 : As (NameB w2 nb (s.extract 0 m)) := ⟨(hP2.block nb hnbl (fun h => h)).trans HNM.out⟩
    obtain ⟨⟨k0, k1, k2⟩, ⟨kf0, kf1, kf2⟩, hkl⟩ := cells3P hkb2
    clear hrb2 hkb2 heb2 hP2 hc2
    go_wp2_with (go_at_call 209; refine (HMR.out _ (HT3.out _) (HC3.out _)).mono ?_; rintro e w4 ⟨rfl, hu⟩; have HU4 := As.mk (show Pure (w2.setCell ⟨w.heap.size + 1, 2, none⟩ _) w4 from hu); clear hu; apply As.out)
    refine ⟨?_⟩
    have hsz3 : ∀ u, (w2.setCell ⟨w.heap.size + 1, 2, none⟩ u).heap.size = w2.heap.size := fun u => by simp [World.setCell]
    have hU24 : Upd (fun q => q = w.heap.size + 1) w2 w4 := (Upd.setCell1 (S := fun q => q = w.heap.size + 1) w2 (p := ⟨w.heap.size + 1, 2, none⟩) rfl _).trans HU4.out (fun _ _ h => h.elim)
    have hrb4 := (hU24.block w.heap.size (Array.getElem?_eq_some_iff.1 HRB2.out).1 (by omega)).trans HRB2.out
    have heb4 := (hU24.block w1.heap.size (Array.getElem?_eq_some_iff.1 HEB2.out).1 (by omega)).trans HEB2.out
    obtain ⟨⟨r0, r1, r2⟩, ⟨rf0, rf1, rf2⟩, hrl⟩ := cells3P hrb4
    obtain ⟨⟨e0, e1, e2⟩, ⟨ef0, ef1, ef2⟩, hel⟩ := cells3P heb4
    have HU24 := As.mk hU24
    clear k0 k1 k2 kf0 kf1 kf2 hrb4 heb4 hU24
    go_wp2
    exact bodyPost_ret (v := .tuple #[.agg #[.int .i64 kk, .string ⟨#[]⟩, .slice (some ⟨nb, 0, none⟩) 1 1], .nilIface]) (by simp [results, Tryz.results208, go_sem, r0, r1, r2, rf0, rf1, rf2]) rfl ⟨nb, rfl, by
        have hnb2 := (Array.getElem?_eq_some_iff.1 HNM2.out).1
        exact ((set3U w4 w.heap.size _ _ _).block nb (Nat.lt_of_lt_of_le hnb2 HU24.out.size) (by omega)).trans ((HU24.out.block nb hnb2 (by omega)).trans HNM2.out), by omega, by
        have hT4 : TB w4 tb s s.size := (HU24.out.block tb HT2.out.cells.2.2 (by omega)).trans HT2.out
        exact ((set3U w4 w.heap.size _ _ _).block tb hT4.cells.2.2 (by omega)).trans hT4, by
        exact (((HP3.out.trans HP12.out (fun _ _ h => h.elim)).trans HU24.out (fun q hq h => absurd h (by omega))).trans (set3U w4 w.heap.size _ _ _) (fun q hq h => absurd h (by omega)))⟩
set_option maxRecDepth 100000 in
set_option maxHeartbeats 4000000 in
theorem choice_name {w : World} {tb m : Nat} {s : ByteArray} {kk : Int} (h : TB w tb s 0) (hn : NameSign s m kk) : Calls Tryz.prog 180 #[.pointer (some ⟨tb, 0, none⟩)] w (PartPost w tb s m kk) := by
  have hsm := hn.nm.small
  have htb := h.cells.2.2
  have hT1 : Pure w ((w.alloc (.cells #[.pointer (some ⟨tb, 0, none⟩)] 205)).alloc (.cells #[.int .i64 0, .string ⟨#[]⟩, .slice none 0 0] 92)) := (Upd.alloc1 _ _ _).alloc _
  have HT1 := As.mk hT1
  have hb0 := (Below.heap_alloc (w.alloc (.cells #[.pointer (some ⟨tb, 0, none⟩)] 205)) (.cells #[.int .i64 0, .string ⟨#[]⟩, .slice none 0 0] 92) w.heap.size (by simp)).trans (heap_alloc_new w _)
  have hc : ((w.alloc (.cells #[.pointer (some ⟨tb, 0, none⟩)] 205)).alloc (.cells #[.int .i64 0, .string ⟨#[]⟩, .slice none 0 0] 92)).cell? ⟨w.heap.size, 0, none⟩ = some (.pointer (some ⟨tb, 0, none⟩)) := by unfold World.cell?; simp only [hb0]; rfl
  have HSM := As.mk (someChoice (mb := w.heap.size) (h.pure hT1) hn hc (by simp; omega) (by omega))
  have hrb0 := heap_alloc_new (w.alloc (.cells #[.pointer (some ⟨tb, 0, none⟩)] 205)) (.cells #[.int .i64 0, .string ⟨#[]⟩, .slice none 0 0] 92)
  rw [show (w.alloc (.cells #[.pointer (some ⟨tb, 0, none⟩)] 205)).heap.size = w.heap.size + 1 by simp] at hrb0
  have HRB := As.mk hrb0
  clear h hn hT1 hb0 hc hrb0
  go_enter Tryz.func180, Tryz.ntmps180
  go_wp2_with (go_at_call 208; refine HSM.out.mono ?_; rintro e w1 ⟨nb, rfl, hnm, hnb, hT, hu⟩; have HNM := As.mk hnm; have HT := As.mk hT; have HU1 := As.mk hu; clear hnm hT hu; apply As.out)
  refine ⟨?_⟩
  simp at hnb
  have hrb1 := (HU1.out.block (w.heap.size + 1) (by simp) (by omega)).trans HRB.out
  obtain ⟨⟨r0, r1, r2⟩, ⟨rf0, rf1, rf2⟩, hrl⟩ := cells3P hrb1
  clear hrb1
  go_wp2
  exact bodyPost_ret (v := .tuple #[.agg #[.int .i64 kk, .string ⟨#[]⟩, .slice (some ⟨nb, 0, none⟩) 1 1], .nilIface]) (by simp [results, Tryz.results180, go_sem, r0, r1, r2, rf0, rf1, rf2]) rfl ⟨nb, rfl, by
      have hnb2 := (Array.getElem?_eq_some_iff.1 HNM.out).1
      exact ((set3U w1 (w.heap.size + 1) _ _ _).block nb hnb2 (by omega)).trans HNM.out, by omega, by
      exact ((set3U w1 (w.heap.size + 1) _ _ _).block tb HT.out.cells.2.2 (by omega)).trans HT.out, by
      exact ((HT1.out.mono (fun _ _ h => h.elim)).trans HU1.out (fun _ _ h => h)).trans (set3U w1 (w.heap.size + 1) _ _ _) (fun q hq h => absurd h (by omega))⟩
end Go.Proofs.YtofjodppljnlaaaGreatDoor
namespace Go.Proofs.YtofjodppljnlaaaGreatDoor
open Go.RowKit
set_option linter.unusedVariables false
set_option linter.unusedSimpArgs false
theorem check_sign {kk : Int} {nm : ByteArray} (hk : kk = 4 ∨ kk = 5 ∨ kk = 6) (hn : nameB nm = true) : exprCheck (.mk kk ⟨#[]⟩ [.mk 1 nm []]) = 0 := by
  have e1 : (Ex.mk 1 nm []).okB kk = true := by
    rw [Ex.okB, if_pos rfl, hn]
    rfl
  have e2 : (Ex.mk kk ⟨#[]⟩ [.mk 1 nm []]).okB 0 = true := by
    rw [Ex.okB, if_neg (by omega), if_neg (by omega)]
    have e3 : decide (leastE kk ≤ [Ex.mk 1 nm []].length) = true := by
      rcases hk with rfl | rfl | rfl <;> simp [leastE]
    have e4 : decide ([Ex.mk 1 nm []].length ≤ mostE kk [Ex.mk 1 nm []].length) = true := by
      rcases hk with rfl | rfl | rfl <;> simp [mostE]
    rw [e3, e4]
    simp [Ex.oksB, e1]
    rfl
  unfold exprCheck
  rw [if_neg (by simp [Ex.cnt, Ex.cnts, Ex.dep, Ex.deps]), if_neg (by rw [e2]; simp)]
theorem as_nil (t : Value) (w : World) : Calls Tryz.prog 160 #[.nilIface, t] w fun e w' => e = .returned (.bool false) ∧ w = w' := by
  go_enter Tryz.func160, Tryz.ntmps160
  go_wp2
  go_ret
  exact ⟨rfl, rfl⟩
set_option maxRecDepth 100000 in
set_option maxHeartbeats 4000000 in
theorem whole_name {w : World} {tb m : Nat} {s : ByteArray} {kk : Int} (h : TB w tb s 0) (hn : NameSign s m kk) : Calls Tryz.prog 159 #[.pointer (some ⟨tb, 0, none⟩)] w (PartPost w tb s m kk) := by
  have hsm := hn.nm.small
  have htb := h.cells.2.2
  have hlen := hn.len
  have hsgn := hn.sg (by omega)
  have hkk : kk = 4 ∨ kk = 5 ∨ kk = 6 := by omega
  obtain ⟨a1, a2, a3⟩ := hn.c0 (by omega)
  have hT1 : Pure w (w.alloc (.cells #[.int .i64 0, .string ⟨#[]⟩, .slice none 0 0] 92)) := Upd.alloc1 _ _ _
  have HT1 := As.mk hT1
  have HNX := As.mk (next_at (h.pure hT1) (by omega : 0 < s.size) a2 a3 hsm)
  have HCH := As.mk (fun W (hu : Pure w W) => choice_name (h.pure hu) hn)
  have HNE := As.mk (fun (W : World) (hT : TB W tb s s.size) => next_end hT hsm)
  have hc0 : ((s[0]'(by omega)).toNat : Int) ≠ 0 := by omega
  obtain ⟨c0, hcc⟩ : ∃ c : Int, c = ((s[0]'(by omega)).toNat : Int) := ⟨_, rfl⟩
  rw [← hcc] at hc0
  have HC0 := As.mk hcc
  have hc1 : (c0 == 0) = false := by simpa using hc0
  have HNB := As.mk hn.nb
  have HRB := As.mk (heap_alloc_new w (.cells #[.int .i64 0, .string ⟨#[]⟩, .slice none 0 0] 92))
  have hnml : (s.extract 0 m).size ≤ 1000 := by simp; omega
  clear h hn hT1 a1 a2 a3 hsgn hcc hc0
  go_enter Tryz.func159, Tryz.ntmps159
  go_wp2_with (go_at_call 179; refine HNX.out.mono ?_; rintro e w1 ⟨rfl, hu⟩; rw [← HC0.out]; have HU1 := As.mk (HT1.out.trans hu (fun _ _ h => h)); have HV1 := As.mk hu; clear hu; apply As.out)
  refine ⟨?_⟩
  go_wp2_with (go_at_call 180; refine (HCH.out _ HU1.out).mono ?_; rintro e w2 ⟨nb, rfl, hnm, hnb, hT, hu⟩; have HNM := As.mk hnm; have HT := As.mk hT; have HU2 := As.mk hu; clear hnm hT hu; apply As.out)
  refine ⟨?_⟩
  have hz1 := HV1.out.size
  simp at hz1
  have hz2 := HU2.out.size
  have HT3 := As.mk (HT.out.pure (Upd.alloc1 (fun _ => False) w2 (.cells #[.int .i64 kk, .string ⟨#[]⟩, .slice (some ⟨nb, 0, none⟩) 1 1] 92)))
  have HEB := As.mk (heap_alloc_new w2 (.cells #[.int .i64 kk, .string ⟨#[]⟩, .slice (some ⟨nb, 0, none⟩) 1 1] 92))
  go_wp2_with (go_at_call 179; refine (HNE.out _ HT3.out).mono ?_; rintro e w3 ⟨rfl, hu⟩; have HU3 := As.mk hu; clear hu; apply As.out)
  refine ⟨?_⟩
  have hnbl := (Array.getElem?_eq_some_iff.1 HNM.out).1
  have hz3 := HU3.out.size
  simp at hz3
  have hp23 : Pure w2 w3 := (Upd.alloc1 (fun _ => False) w2 _).trans HU3.out (fun _ _ h => h)
  have HNM3 : As (NameB w3 nb (s.extract 0 m)) := ⟨(hp23.block nb hnbl (fun h => h)).trans HNM.out⟩
  have heb3 := (HU3.out.block w2.heap.size (by simp) (fun h => h)).trans HEB.out
  obtain ⟨⟨e0, e1, e2⟩, _, hel⟩ := cells3P heb3
  have HEB3 := As.mk heb3
  have HP23 := As.mk hp23
  have HCK := As.mk (exprCheck_calls (c := 1) (e := .mk kk ⟨#[]⟩ [.mk 1 (s.extract 0 m) []]) (w := w3) (name_row (F := fun _ => True) HNM3.out trivial) (by
    have e0 : (⟨#[]⟩ : ByteArray).size = 0 := rfl
    simp only [Ex.wt, Ex.wts, e0]
    omega))
  rw [check_sign hkk HNB.out] at HCK
  clear heb3 hp23
  go_wp2_with (go_at_call 161; refine HCK.out.mono ?_; rintro e w4 ⟨rfl, hu⟩; have HU4 := As.mk hu; clear hu; apply As.out)
  refine ⟨?_⟩
  have hrb1 := (HV1.out.block w.heap.size (by simp) (fun h => h)).trans HRB.out
  have hrb4 := ((HP23.out.trans HU4.out (fun _ _ h => h)).block w.heap.size (by omega) (fun h => h)).trans ((HU2.out.block w.heap.size (by omega) (by omega)).trans hrb1)
  have heb4 := (HU4.out.block w2.heap.size (by omega) (fun h => h)).trans HEB3.out
  obtain ⟨⟨r0, r1, r2⟩, ⟨rf0, rf1, rf2⟩, hrl⟩ := cells3P hrb4
  clear e0 e1 e2
  obtain ⟨⟨e0, e1, e2⟩, _, hel4⟩ := cells3P heb4
  clear hrb1 hrb4 heb4
  go_wp2
  exact bodyPost_ret (v := .tuple #[.agg #[.int .i64 kk, .string ⟨#[]⟩, .slice (some ⟨nb, 0, none⟩) 1 1], .nilIface]) (by simp [results, Tryz.results159, go_sem, r0, r1, r2, rf0, rf1, rf2]) rfl ⟨nb, rfl, by
      have hnb4 := (HU4.out.block nb (Array.getElem?_eq_some_iff.1 HNM3.out).1 (fun h => h)).trans HNM3.out
      exact ((set3U w4 w.heap.size _ _ _).block nb (Array.getElem?_eq_some_iff.1 hnb4).1 (by omega)).trans hnb4, by omega, by
      have hT4 := (HT.out.pure HP23.out).pure HU4.out
      exact ((set3U w4 w.heap.size _ _ _).block tb hT4.cells.2.2 (by omega)).trans hT4, by
      exact (((HU1.out.mono (fun _ _ h => h.elim)).trans HU2.out (fun _ _ h => h)).trans (HP23.out.trans HU4.out (fun _ _ h => h)) (fun _ _ h => h.elim)).trans (set3U w4 w.heap.size _ _ _) (fun q hq h => absurd h (by omega))⟩
/-- A struct laid into an elder block, and two blocks made behind it. -/
theorem set3_two {w : World} {rb : Nat} {x0 x1 x2 : Value} {t : TypeId} (h : w.heap[rb]? = some (.cells #[x0, x1, x2] t (0, 0))) (y0 y1 y2 : Value) (o1 o2 : Obj) :
    ((((((w.setCell ⟨rb, 0, none⟩ y0).setCell ⟨rb, 1, none⟩ y1).setCell ⟨rb, 2, none⟩ y2).alloc o1).alloc o2).cell? ⟨rb, 0, none⟩ = some y0 ∧ (((((w.setCell ⟨rb, 0, none⟩ y0).setCell ⟨rb, 1, none⟩ y1).setCell ⟨rb, 2, none⟩ y2).alloc o1).alloc o2).cell? ⟨rb, 1, none⟩ = some y1 ∧ (((((w.setCell ⟨rb, 0, none⟩ y0).setCell ⟨rb, 1, none⟩ y1).setCell ⟨rb, 2, none⟩ y2).alloc o1).alloc o2).cell? ⟨rb, 2, none⟩ = some y2) := by
  have hl := (Array.getElem?_eq_some_iff.1 h).1
  have h3 : (((w.setCell ⟨rb, 0, none⟩ y0).setCell ⟨rb, 1, none⟩ y1).setCell ⟨rb, 2, none⟩ y2).heap[rb]? = some (.cells #[y0, y1, y2] t (0, 0)) := by simp [World.setCell, Array.getElem?_modify, h]
  have hz : (((w.setCell ⟨rb, 0, none⟩ y0).setCell ⟨rb, 1, none⟩ y1).setCell ⟨rb, 2, none⟩ y2).heap.size = w.heap.size := by simp [World.setCell]
  have h4 := (Below.heap_alloc (((w.setCell ⟨rb, 0, none⟩ y0).setCell ⟨rb, 1, none⟩ y1).setCell ⟨rb, 2, none⟩ y2) o1 rb (by omega)).trans h3
  have h5 := (Below.heap_alloc ((((w.setCell ⟨rb, 0, none⟩ y0).setCell ⟨rb, 1, none⟩ y1).setCell ⟨rb, 2, none⟩ y2).alloc o1) o2 rb (by simp; omega)).trans h4
  exact (cells3P h5).1
/-- What a text is parsed to. -/
def ParsesTo (s : ByteArray) (e : Ex) : Prop := ∀ w : World, Calls Tryz.prog 124 #[.string s] w fun r w' => ∃ A c, r = .returned (.tuple #[e.val A c, .int .i64 s.size, .int .i64 0]) ∧ e.l.length ≤ c ∧ exR.row w' (fun k => w.heap.size ≤ k) A e.l ∧ Pure w w'
set_option maxRecDepth 100000 in
set_option maxHeartbeats 4000000 in
theorem parse_name {m : Nat} {s : ByteArray} {kk : Int} (hn : NameSign s m kk) (hs : s.size ≤ 200) : ParsesTo s (.mk kk ⟨#[]⟩ [.mk 1 (s.extract 0 m) []]) := by
  intro w
  have e1 : decide (200 < (s.size : Int)) = false := by simp; omega
  have e2 : ¬ (200 : Int) < (s.size : Int) := by omega
  have e3 : decide (200 < s.size) = false := by simp; omega
  have hT1 : Pure w ((w.alloc (.cells #[.int .i64 0, .string ⟨#[]⟩, .slice none 0 0] 92)).alloc (.cells #[.string s, .int .i64 0] 207)) := (Upd.alloc1 _ _ _).alloc _
  have hTB : TB ((w.alloc (.cells #[.int .i64 0, .string ⟨#[]⟩, .slice none 0 0] 92)).alloc (.cells #[.string s, .int .i64 0] 207)) (w.heap.size + 1) s 0 := by
    have := heap_alloc_new (w.alloc (.cells #[.int .i64 0, .string ⟨#[]⟩, .slice none 0 0] 92)) (.cells #[.string s, .int .i64 0] 207)
    rw [show (w.alloc (.cells #[.int .i64 0, .string ⟨#[]⟩, .slice none 0 0] 92)).heap.size = w.heap.size + 1 by simp] at this
    exact this
  have HT1 := As.mk hT1
  have HWH := As.mk (whole_name hTB hn)
  have HRB := As.mk ((Below.heap_alloc (w.alloc (.cells #[.int .i64 0, .string ⟨#[]⟩, .slice none 0 0] 92)) (.cells #[.string s, .int .i64 0] 207) w.heap.size (by simp)).trans (heap_alloc_new w _))
  clear hn hT1 hTB
  go_enter Tryz.func124, Tryz.ntmps124
  go_wp2_with (go_at_call 159; refine HWH.out.mono ?_; rintro e w1 ⟨nb, rfl, hnm, hnb, hT, hu⟩; have HNM := As.mk hnm; have HU1 := As.mk hu; clear hnm hT hu; apply As.out)
  refine ⟨?_⟩
  simp at hnb
  have hz1 := HU1.out.size
  simp at hz1
  have hrb1 := (HU1.out.block w.heap.size (by simp; omega) (by omega)).trans HRB.out
  obtain ⟨⟨r0, r1, r2⟩, ⟨rf0, rf1, rf2⟩, hrl⟩ := cells3P hrb1
  have hnbl := (Array.getElem?_eq_some_iff.1 HNM.out).1
  have HRB1 := As.mk hrb1
  clear hrb1
  go_wp2_with (go_at_call 160; refine (as_nil _ _).mono ?_; rintro e w2 ⟨rfl, rfl⟩)
  have hnm5 : NameB (((((w1.setCell ⟨w.heap.size, 0, none⟩ (.int .i64 kk)).setCell ⟨w.heap.size, 1, none⟩ (.string ⟨#[]⟩)).setCell ⟨w.heap.size, 2, none⟩ (.slice (some ⟨nb, 0, none⟩) 1 1)).alloc (.cells #[.int .i64 kk, .string ⟨#[]⟩, .slice (some ⟨nb, 0, none⟩) 1 1] 92)).alloc (.cells #[.pointer none] 210)) nb (s.extract 0 m) :=
    ((((set3U w1 w.heap.size _ _ _).alloc _).alloc _).block nb hnbl (by omega)).trans HNM.out
  obtain ⟨q0, q1, q2⟩ := set3_two HRB1.out (.int .i64 kk) (.string ⟨#[]⟩) (.slice (some ⟨nb, 0, none⟩) 1 1) (.cells #[.int .i64 kk, .string ⟨#[]⟩, .slice (some ⟨nb, 0, none⟩) 1 1] 92) (.cells #[.pointer none] 210)
  exact bodyPost_ret (v := .tuple #[.agg #[.int .i64 kk, .string ⟨#[]⟩, .slice (some ⟨nb, 0, none⟩) 1 1], .int .i64 s.size, .int .i64 0]) (by simp [results, Tryz.results124, go_sem, q0, q1, q2]) rfl ⟨some ⟨nb, 0, none⟩, 1, rfl, Nat.le_refl _, name_row hnm5 (by omega), ((((HT1.out.trans HU1.out (fun q hq h => by omega)).trans (set3U w1 w.heap.size _ _ _) (fun q hq h => by omega)).alloc _).alloc _)⟩
set_option maxRecDepth 100000 in
set_option maxHeartbeats 4000000 in
theorem whole_empty {w : World} {tb : Nat} (h : TB w tb ⟨#[]⟩ 0) : Calls Tryz.prog 159 #[.pointer (some ⟨tb, 0, none⟩)] w fun r w' => r = .returned (.tuple #[.agg #[.int .i64 0, .string ⟨#[]⟩, .slice none 0 0], .nilIface]) ∧ Pure w w' := by
  have hT1 : Pure w (w.alloc (.cells #[.int .i64 0, .string ⟨#[]⟩, .slice none 0 0] 92)) := Upd.alloc1 _ _ _
  have HNX := As.mk (next_end (s := ⟨#[]⟩) (h.pure hT1) (by decide))
  have HT1 := As.mk hT1
  have HRB := As.mk (heap_alloc_new w (.cells #[.int .i64 0, .string ⟨#[]⟩, .slice none 0 0] 92))
  clear h hT1
  go_enter Tryz.func159, Tryz.ntmps159
  go_wp2_with (go_at_call 179; refine HNX.out.mono ?_; rintro e w1 ⟨rfl, hu⟩; have HU1 := As.mk hu; clear hu; apply As.out)
  refine ⟨?_⟩
  have hrb1 := (HU1.out.block w.heap.size (by simp) (fun h => h)).trans HRB.out
  obtain ⟨⟨r0, r1, r2⟩, ⟨rf0, rf1, rf2⟩, hrl⟩ := cells3P hrb1
  clear hrb1
  go_wp2
  exact bodyPost_ret (v := .tuple #[.agg #[.int .i64 0, .string ⟨#[]⟩, .slice none 0 0], .nilIface]) (by simp [results, Tryz.results159, go_sem, r0, r1, r2, rf0, rf1, rf2]) rfl ⟨rfl, (HT1.out.trans HU1.out (fun _ _ h => h)).trans (set3U w1 w.heap.size _ _ _) (fun q hq h => by omega)⟩
set_option maxRecDepth 100000 in
set_option maxHeartbeats 4000000 in
theorem parse_empty : ParsesTo ⟨#[]⟩ (.mk 0 ⟨#[]⟩ []) := by
  intro w
  have hT1 : Pure w ((w.alloc (.cells #[.int .i64 0, .string ⟨#[]⟩, .slice none 0 0] 92)).alloc (.cells #[.string ⟨#[]⟩, .int .i64 0] 207)) := (Upd.alloc1 _ _ _).alloc _
  have hTB : TB ((w.alloc (.cells #[.int .i64 0, .string ⟨#[]⟩, .slice none 0 0] 92)).alloc (.cells #[.string ⟨#[]⟩, .int .i64 0] 207)) (w.heap.size + 1) ⟨#[]⟩ 0 := by
    have := heap_alloc_new (w.alloc (.cells #[.int .i64 0, .string ⟨#[]⟩, .slice none 0 0] 92)) (.cells #[.string ⟨#[]⟩, .int .i64 0] 207)
    rw [show (w.alloc (.cells #[.int .i64 0, .string ⟨#[]⟩, .slice none 0 0] 92)).heap.size = w.heap.size + 1 by simp] at this
    exact this
  have HT1 := As.mk hT1
  have HWH := As.mk (whole_empty hTB)
  have HRB := As.mk ((Below.heap_alloc (w.alloc (.cells #[.int .i64 0, .string ⟨#[]⟩, .slice none 0 0] 92)) (.cells #[.string ⟨#[]⟩, .int .i64 0] 207) w.heap.size (by simp)).trans (heap_alloc_new w _))
  clear hT1 hTB
  go_enter Tryz.func124, Tryz.ntmps124
  go_wp2_with (go_at_call 159; refine HWH.out.mono ?_; rintro e w1 ⟨rfl, hu⟩; have HU1 := As.mk hu; clear hu; apply As.out)
  refine ⟨?_⟩
  have hrb1 := (HU1.out.block w.heap.size (by simp; omega) (fun h => h)).trans HRB.out
  obtain ⟨⟨r0, r1, r2⟩, ⟨rf0, rf1, rf2⟩, hrl⟩ := cells3P hrb1
  have HRB1 := As.mk hrb1
  clear hrb1
  go_wp2_with (go_at_call 160; refine (as_nil _ _).mono ?_; rintro e w2 ⟨rfl, rfl⟩)
  obtain ⟨q0, q1, q2⟩ := set3_two HRB1.out (.int .i64 0) (.string ⟨#[]⟩) (.slice none 0 0) (.cells #[.int .i64 0, .string ⟨#[]⟩, .slice none 0 0] 92) (.cells #[.pointer none] 210)
  exact bodyPost_ret (v := .tuple #[.agg #[.int .i64 0, .string ⟨#[]⟩, .slice none 0 0], .int .i64 0, .int .i64 0]) (by simp [results, Tryz.results124, go_sem, q0, q1, q2]) rfl ⟨none, 0, rfl, Nat.le_refl _, .inl rfl, ((((HT1.out.trans HU1.out (fun q hq h => h)).trans (set3U w1 w.heap.size _ _ _) (fun q hq h => by omega)).alloc _).alloc _)⟩
end Go.Proofs.YtofjodppljnlaaaGreatDoor
namespace Go.Proofs.YtofjodppljnlaaaGreatDoor
open Go.RowKit
set_option linter.unusedVariables false
set_option linter.unusedSimpArgs false
theorem int_own_fp {e : Nat} {w : World} {F : Nat → Prop} {v : Value} {xs : List Int} (h : intR.own e w F v xs) : intR.own e w (fun k => v.ownBlock = some k) v xs := by
  obtain ⟨inner, h1, h2, h3⟩ := h
  exact ⟨inner, h1, fun _ hk => hk, h3⟩
theorem int_own_fp' {e : Nat} {w : World} {F G : Nat → Prop} {v : Value} {xs : List Int} (h : intR.own e w F v xs) (hG : ∀ k, v.ownBlock = some k → G k) : intR.own e w G v xs := by
  obtain ⟨inner, h1, h2, h3⟩ := h
  exact ⟨inner, h1, hG, h3⟩
def posI (v : Int) : Nat → List Int → Int
  | _, [] => -1
  | k, x :: r => if x = v then (k : Int) else posI v (k + 1) r
theorem posI_mem (v : Int) (l : List Int) (k : Nat) : decide (posI v k l ≥ 0) = decide (v ∈ l) := by
  induction l generalizing k with
  | nil => simp [posI]
  | cons x r ih =>
    by_cases h : x = v
    · simp [posI, h]
    · have h' : ¬ v = x := fun e => h e.symm
      simp [posI, h, h', ih]
theorem int_drop {l : List Int} {k : Nat} {x : Int} (h : l[k]? = some x) : l.drop k = x :: l.drop (k + 1) := by
  obtain ⟨hk, he⟩ := List.getElem?_eq_some_iff.1 h
  rw [List.drop_eq_getElem_cons hk, he]
set_option maxRecDepth 100000 in
set_option maxHeartbeats 4000000 in
theorem Index_calls {F : Nat → Prop} {A : Option Addr} {c : Nat} {l : List Int} {w : World} (v : Int) (hr : intR.row w F A l) (hb : l.length ≤ 1048576 * 4) :
    Calls Tryz.prog 195 #[.slice A l.length c, .int .i64 v] w fun r w' => r = .returned (.int .i64 (posI v 0 l)) ∧ w = w' := by
  have HR := As.mk hr
  clear hr
  go_enter Tryz.func195, Tryz.ntmps195
  go_wp2
  go_loopg [8] l.length (fun g i wr => ∃ k : Nat, k + g = l.length ∧ i = .int .i64 k ∧ As (posI v k (l.drop k) = posI v 0 l) ∧ w = wr)
  case atStart => exact ⟨0, by omega, rfl, ⟨rfl⟩, rfl⟩
  case round =>
    obtain ⟨k, hk, rfl, HT, rfl⟩ := hrel
    by_cases hlt : k < l.length
    · obtain ⟨x, hx⟩ : ∃ x, l[k]? = some x := ⟨_, List.getElem?_eq_getElem hlt⟩
      obtain ⟨b, o, rfl, hF, hbl, d0⟩ := int_at HR.out hx
      obtain ⟨g1, rfl⟩ : ∃ m, gk = m + 1 := ⟨gk - 1, by omega⟩
      rw [int_drop hx] at HT
      have HK := As.mk hk
      clear hk hx
      by_cases hq : x = v
      · have HV : As ((k : Int) = posI v 0 l) := ⟨by rw [← HT.out, posI, if_pos hq]⟩
        have e1 : (v == x) = true := by simp [hq]
        clear HT
        go_wp2
        go_ret
        exact ⟨by rw [← HV.out]; rfl, rfl⟩
      · have HV : As (posI v (k + 1) (l.drop (k + 1)) = posI v 0 l) := ⟨by rw [← HT.out, posI, if_neg hq]⟩
        have e1 : (v == x) = false := by simp; exact fun e => hq e.symm
        clear HT
        go_wp2
        go_roundg g1
        case measure => omega
        case rel => exact ⟨k + 1, by have := HK.out; omega, by go_num, HV, rfl⟩
    · have hkl : k = l.length := by omega
      subst hkl
      rw [List.drop_length] at HT
      have HV : As ((-1 : Int) = posI v 0 l) := ⟨HT.out⟩
      clear HT
      go_wp2
      go_ret
      exact ⟨by rw [← HV.out]; rfl, rfl⟩
set_option maxRecDepth 100000 in
set_option maxHeartbeats 4000000 in
theorem Contains_calls {F : Nat → Prop} {A : Option Addr} {c : Nat} {l : List Int} {w : World} (v : Int) (hr : intR.row w F A l) (hb : l.length ≤ 1048576 * 4) :
    Calls Tryz.prog 167 #[.slice A l.length c, .int .i64 v] w fun r w' => r = .returned (.bool (decide (v ∈ l))) ∧ w = w' := by
  have HC := As.mk (Index_calls (c := c) v hr hb)
  have HV := As.mk (posI_mem v l 0)
  clear hr
  go_enter Tryz.func167, Tryz.ntmps167
  go_wp2_with (go_at_call 195; refine HC.out.mono ?_; rintro e w1 ⟨rfl, rfl⟩)
  go_ret
  exact ⟨by rw [← HV.out]; rfl, rfl⟩
set_option maxRecDepth 100000 in
set_option maxHeartbeats 4000000 in
theorem Clone_calls {F : Nat → Prop} {A : Option Addr} {c : Nat} {l : List Int} {w : World} (hr : intR.row w F A l) (hb : l.length ≤ 1048576 * 4) :
    Calls Tryz.prog 123 #[.slice A l.length c] w fun r w' => ∃ v, r = .returned v ∧ intR.own 3 w' (fun k => w.heap.size ≤ k) v l ∧ Pure w w' := by
  have HR := As.mk hr
  have heqn := fun (W : World) (a : Option Addr) (n c : Nat) => Lib.run_eql_slice_nil (P := Tryz.prog) W 83 3 a n c 0 0 Tryz.underlying83
  cases A with
  | none =>
    have hl : l = [] := by
      rcases hr with h | ⟨_, _, h, _⟩
      · exact h
      · cases h
    subst hl
    clear hr
    go_enter Tryz.func123, Tryz.ntmps123
    go_wp2
    go_ret
    exact ⟨_, rfl, Rp.own_nil _ _ _ _, Upd.refl _ _⟩
  | some ad =>
    clear hr
    have HO : As (intR.own 3 (w.alloc (.cells #[] 3)) (fun k => w.heap.size ≤ k) (.slice (some ⟨w.heap.size, 0, none⟩) 0 0) []) :=
      ⟨[], ⟨by simp, .inr ⟨w.heap.size, 0, #[], rfl, Nat.zero_le _, heap_alloc_new w _, Nat.le_refl _, by simp [maxLen], by simp, by simp⟩⟩, fun k hk => by simp [Value.ownBlock] at hk; omega, Reps.nil _ _⟩
    go_enter Tryz.func123, Tryz.ntmps123
    go_wp2_with (at_builtin; refine Rp.append_row intR (c := c) HO.out (Rp.row'_of (Rp.row_pure HR.out (Upd.alloc1 _ _ _)) (fun _ _ h => h)) (Fz := fun _ => False) (fun _ h => h.elim) rfl _ _ 83 (.int .i64 0) 8 rfl Tryz.underlying83 int_info rfl (by decide) (by decide) (by rfl) (by rfl) (by simp; omega) ?_; intro v1 w1 ho1 hu1 hat; have HO1 := As.mk ho1; have HU1 := As.mk hu1; have HAT := As.mk hat; clear ho1 hu1 hat)
    go_ret
    exact ⟨v1, rfl, int_own_fp' HO1.out (fun k hk => by
      rcases HAT.out with h | ⟨b, hb, hle⟩
      · rw [h] at hk; simp [Value.ownBlock] at hk; omega
      · rw [hb] at hk; injection hk with hk; simp at hle; omega), Upd.trans (Upd.alloc1 _ _ _) HU1.out (fun k hk h => by simp [Value.ownBlock] at h; omega)⟩
end Go.Proofs.YtofjodppljnlaaaGreatDoor
