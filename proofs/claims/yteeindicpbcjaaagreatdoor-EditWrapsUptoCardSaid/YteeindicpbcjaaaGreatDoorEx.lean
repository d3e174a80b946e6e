/- api.Expr, api.Group, []int: how they lie in memory. -/
import Derived.Test.YteeindicpbcjaaaGreatDoorBase
import Derived.Test.YteeindicpbcjaaaGreatDoorProg
namespace Go.Proofs.YteeindicpbcjaaaGreatDoor
open Go.RowKit
set_option linter.unusedVariables false
set_option linter.unusedSimpArgs false

inductive Ex where
  | mk (k : Int) (name : ByteArray) (l : List Ex)
abbrev Ex.k : Ex → Int | .mk k _ _ => k
abbrev Ex.name : Ex → ByteArray | .mk _ n _ => n
abbrev Ex.l : Ex → List Ex | .mk _ _ l => l
mutual
def Ex.cnt : Ex → Nat | .mk _ _ l => 1 + Ex.cnts l
def Ex.cnts : List Ex → Nat | [] => 0 | x :: r => x.cnt + Ex.cnts r
end
mutual
def Ex.dep : Ex → Nat | .mk _ _ l => 1 + Ex.deps l
def Ex.deps : List Ex → Nat | [] => 0 | x :: r => max x.dep (Ex.deps r)
end
theorem Ex.cnts_sum (l : List Ex) : Ex.cnts l = (l.map Ex.cnt).sum := by
  induction l with
  | nil => rfl
  | cons x r ih => simp [Ex.cnts, ih]
theorem Ex.cnts_append (a b : List Ex) : Ex.cnts (a ++ b) = Ex.cnts a + Ex.cnts b := by simp [Ex.cnts_sum]
theorem Ex.deps_append (a b : List Ex) : Ex.deps (a ++ b) = max (Ex.deps a) (Ex.deps b) := by
  induction a with
  | nil => simp [Ex.deps]
  | cons x r ih => simp [Ex.deps, ih, Nat.max_assoc]
theorem Ex.cnt_mem {x : Ex} {l : List Ex} (h : x ∈ l) : x.cnt ≤ Ex.cnts l := by
  induction l with
  | nil => cases h
  | cons y r ih =>
    simp only [Ex.cnts]
    rcases List.mem_cons.1 h with rfl | h
    · omega
    · have := ih h; omega
theorem Ex.cnts_take (l : List Ex) (k : Nat) : Ex.cnts (l.take k) ≤ Ex.cnts l := by
  have := Ex.cnts_append (l.take k) (l.drop k)
  rw [List.take_append_drop] at this
  omega
theorem Ex.cnts_succ {l : List Ex} {k : Nat} {x : Ex} (hx : l[k]? = some x) : Ex.cnts (l.take (k + 1)) = Ex.cnts (l.take k) + x.cnt := by
  rw [List.take_add_one, hx, Ex.cnts_append]
  simp [Ex.cnts]
theorem Ex.deps_succ {l : List Ex} {k : Nat} {x : Ex} (hx : l[k]? = some x) : Ex.deps (l.take (k + 1)) = max (Ex.deps (l.take k)) x.dep := by
  rw [List.take_add_one, hx, Ex.deps_append]
  simp [Ex.deps]
theorem Ex.dep_mem {x : Ex} {l : List Ex} (h : x ∈ l) : x.dep ≤ Ex.deps l := by
  induction l with
  | nil => cases h
  | cons y r ih =>
    simp only [Ex.deps]
    rcases List.mem_cons.1 h with rfl | h
    · omega
    · have := ih h; omega
mutual
theorem Ex.dep_le_cnt : ∀ e : Ex, e.dep ≤ e.cnt
  | .mk k n l => by have := Ex.deps_le_cnts l; simp only [Ex.dep, Ex.cnt]; omega
theorem Ex.deps_le_cnts : ∀ l : List Ex, Ex.deps l ≤ Ex.cnts l
  | [] => by simp [Ex.deps, Ex.cnts]
  | x :: r => by have h1 := Ex.dep_le_cnt x; have h2 := Ex.deps_le_cnts r; simp only [Ex.deps, Ex.cnts]; omega
end
mutual
def Ex.wt : Ex → Nat | .mk _ nm l => 1 + nm.size + Ex.wts l
def Ex.wts : List Ex → Nat | [] => 0 | x :: r => x.wt + Ex.wts r
end
mutual
theorem Ex.cnt_le_wt : ∀ e : Ex, e.cnt ≤ e.wt
  | .mk k n l => by have := Ex.cnts_le_wts l; simp only [Ex.cnt, Ex.wt]; omega
theorem Ex.cnts_le_wts : ∀ l : List Ex, Ex.cnts l ≤ Ex.wts l
  | [] => by simp [Ex.cnts, Ex.wts]
  | x :: r => by have h1 := Ex.cnt_le_wt x; have h2 := Ex.cnts_le_wts r; simp only [Ex.cnts, Ex.wts]; omega
end
theorem Ex.wt_mem {x : Ex} {l : List Ex} (h : x ∈ l) : x.wt ≤ Ex.wts l := by
  induction l with
  | nil => cases h
  | cons y r ih =>
    simp only [Ex.wts]
    rcases List.mem_cons.1 h with rfl | h
    · omega
    · have := ih h; omega
theorem Ex.wts_len (l : List Ex) : l.length ≤ Ex.wts l := by
  induction l with
  | nil => simp
  | cons x r ih => cases x; simp only [Ex.wts, Ex.wt, List.length_cons]; omega
theorem Ex.wt_pos (e : Ex) : 1 ≤ e.wt := by cases e; simp [Ex.wt]; omega
theorem Ex.cnt_pos (e : Ex) : 1 ≤ e.cnt := by cases e; simp [Ex.cnt]; 

/-- How an expression lies: its three cells. -/
inductive ExRep (w : World) (F : Nat → Prop) : Ex → List Value → Prop
  | mk (k : Int) (nm : ByteArray) (l : List Ex) (A : Option Addr) (c : Nat) (css : Nat → List Value) (hle : l.length ≤ c) (hr : ∀ j x, l[j]? = some x → ExRep w F x (css j))
      (hp : l = [] ∨ ∃ b o, A = some ⟨b, o, none⟩ ∧ F b ∧ b < w.heap.size ∧ ∀ j x, l[j]? = some x → ∀ i u, (css j)[i]? = some u → w.cell? ⟨b, o + j * 3 + i, none⟩ = some u) :
      ExRep w F (.mk k nm l) [.int .i64 k, .string nm, .slice A l.length c]

theorem ExRep.move {w w1 : World} {F G : Nat → Prop} {e : Ex} {cs : List Value} (hm : ∀ k, F k → k < w.heap.size → G k ∧ k < w1.heap.size ∧ w1.heap[k]? = w.heap[k]?) (h : ExRep w F e cs) : ExRep w1 G e cs := by
  induction h with
  | mk k nm l A c css hle hr hp ih =>
    refine .mk k nm l A c css hle ih ?_
    rcases hp with hp | ⟨b, o, hA, hF, hb, hc⟩
    · exact .inl hp
    · obtain ⟨hG, hb1, he⟩ := hm b hF hb
      refine .inr ⟨b, o, hA, hG, hb1, fun j x hx i u hu => ?_⟩
      rw [← hc j x hx i u hu]
      simp [World.cell?, he]

def exR : Rp Ex where
  sz := 3
  rep := ExRep
  len := fun h => by cases h; rfl
  one := fun h u hu => by
    cases h
    simp at hu
    rcases hu with rfl | rfl | rfl <;> rfl
  move := ExRep.move

/-- Its parts. -/
theorem ExRep.parts {w : World} {F : Nat → Prop} {e : Ex} {cs : List Value} (h : ExRep w F e cs) : ∃ A c, cs = [.int .i64 e.k, .string e.name, .slice A e.l.length c] ∧ e.l.length ≤ c ∧ exR.row w F A e.l := by
  cases h with
  | mk k nm l A c css hle hr hp =>
    refine ⟨A, c, rfl, hle, ?_⟩
    rcases hp with hp | ⟨b, o, hA, hF, hb, hc⟩
    · exact .inl hp
    · exact .inr ⟨b, o, hA, hF, hb, fun j x hx => ⟨css j, hr j x hx, hc j x hx⟩⟩

theorem ExRep.of_parts {w : World} {F : Nat → Prop} {k : Int} {nm : ByteArray} {l : List Ex} {A : Option Addr} {c : Nat} (hl : l.length ≤ c) (h : exR.row w F A l) : ExRep w F (.mk k nm l) [.int .i64 k, .string nm, .slice A l.length c] := by
  rcases h with rfl | ⟨b, o, hA, hF, hb, hc⟩
  · exact .mk k nm [] A c (fun _ => []) hl (fun j x hx => by simp at hx) (.inl rfl)
  · have hex : ∃ css : Nat → List Value, ∀ j x, l[j]? = some x → ExRep w F x (css j) ∧ ∀ i u, (css j)[i]? = some u → w.cell? ⟨b, o + j * 3 + i, none⟩ = some u := by
      classical
      refine ⟨fun j => if h : ∃ cs, ∀ x, l[j]? = some x → ExRep w F x cs ∧ ∀ i u, cs[i]? = some u → w.cell? ⟨b, o + j * 3 + i, none⟩ = some u then h.choose else [], fun j x hx => ?_⟩
      have hh : ∃ cs, ∀ x, l[j]? = some x → ExRep w F x cs ∧ ∀ i u, cs[i]? = some u → w.cell? ⟨b, o + j * 3 + i, none⟩ = some u := by
        obtain ⟨cs, h1, h2⟩ := hc j x hx
        refine ⟨cs, fun y hy => ?_⟩
        rw [hx] at hy
        cases hy
        exact ⟨h1, h2⟩
      simp only [dif_pos hh]
      exact hh.choose_spec x hx
    obtain ⟨css, hcss⟩ := hex
    exact .mk k nm l A c css hl (fun j x hx => (hcss j x hx).1) (.inr ⟨b, o, hA, hF, hb, fun j x hx => (hcss j x hx).2⟩)

/-- An expression of a row that is read. -/
theorem ex_at {w : World} {F : Nat → Prop} {A : Option Addr} {xs : List Ex} (h : exR.row w F A xs) {j : Nat} {x : Ex} (hx : xs[j]? = some x) :
    ∃ b o A1 c1, A = some ⟨b, o, none⟩ ∧ F b ∧ b < w.heap.size ∧ w.cell? ⟨b, o + j * 3, none⟩ = some (.int .i64 x.k) ∧ w.cell? ⟨b, o + j * 3 + 1, none⟩ = some (.string x.name) ∧ w.cell? ⟨b, o + j * 3 + 2, none⟩ = some (.slice A1 x.l.length c1) ∧ x.l.length ≤ c1 ∧ exR.row w F A1 x.l := by
  obtain ⟨b, o, cs, hA, hF, hb, hr, hc⟩ := Rp.row_at h hx
  obtain ⟨A1, c1, rfl, hle, hrow⟩ := ExRep.parts hr
  exact ⟨b, o, A1, c1, hA, hF, hb, hc 0 _ rfl, hc 1 _ rfl, hc 2 _ rfl, hle, hrow⟩

abbrev intR : Rp Int := Rp.int .i64
theorem int_at {w : World} {F : Nat → Prop} {A : Option Addr} {xs : List Int} (h : intR.row w F A xs) {j : Nat} {x : Int} (hx : xs[j]? = some x) :
    ∃ b o, A = some ⟨b, o, none⟩ ∧ F b ∧ b < w.heap.size ∧ w.cell? ⟨b, o + j, none⟩ = some (.int .i64 x) := by
  obtain ⟨b, o, cs, hA, hF, hb, hr, hc⟩ := Rp.row_at h hx
  have hr' : cs = [.int .i64 x] := hr
  subst hr'
  have := hc 0 _ rfl
  rw [show (intR.sz) = 1 from rfl, Nat.mul_one] at this
  exact ⟨b, o, hA, hF, hb, this⟩

structure Grp where
  name : ByteArray
  types : List Int
def grpR : Rp Grp where
  sz := 2
  rep := fun w F x cs => ∃ A c, cs = [.string x.name, .slice A x.types.length c] ∧ x.types.length ≤ c ∧ intR.row w F A x.types
  len := by
    rintro w F x cs ⟨A, c, rfl, _⟩
    rfl
  one := by
    rintro w F x cs ⟨A, c, rfl, _⟩ u hu
    simp at hu
    rcases hu with rfl | rfl <;> rfl
  move := by
    rintro w w1 F G x cs hm ⟨A, c, rfl, hl, hr⟩
    exact ⟨A, c, rfl, hl, Rp.row_move hm hr⟩
theorem grp_at {w : World} {F : Nat → Prop} {A : Option Addr} {xs : List Grp} (h : grpR.row w F A xs) {j : Nat} {x : Grp} (hx : xs[j]? = some x) :
    ∃ b o A1 c1, A = some ⟨b, o, none⟩ ∧ F b ∧ b < w.heap.size ∧ w.cell? ⟨b, o + j * 2, none⟩ = some (.string x.name) ∧ w.cell? ⟨b, o + j * 2 + 1, none⟩ = some (.slice A1 x.types.length c1) ∧ x.types.length ≤ c1 ∧ intR.row w F A1 x.types := by
  obtain ⟨b, o, cs, hA, hF, hb, hr, hc⟩ := Rp.row_at h hx
  obtain ⟨A1, c1, rfl, hle, hrow⟩ := hr
  exact ⟨b, o, A1, c1, hA, hF, hb, hc 0 _ rfl, hc 1 _ rfl, hle, hrow⟩
theorem int_info : (Tryz.prog.info? 3).map (fun i => (i.zero, i.size, i.bytes)) = some (some (.int .i64 0), 1, 8) := by kernel_rfl
end Go.Proofs.YteeindicpbcjaaaGreatDoor
