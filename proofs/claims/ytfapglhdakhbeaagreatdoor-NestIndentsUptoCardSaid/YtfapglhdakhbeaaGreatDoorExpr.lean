/- api.Expr, api.Group, []int: how they lie in memory. expr.size, expr.Name, expr.right, expr.Check: what they tell. -/
import Derived.Test.YtfapglhdakhbeaaGreatDoorBase
import Derived.Test.YtfapglhdakhbeaaGreatDoorProg
import Derived.Laws.IdiomStrings
namespace Go.Proofs.YtfapglhdakhbeaaGreatDoor
open Go.RowKit
set_option linter.unusedVariables false
set_option linter.unusedSimpArgs false

inductive Ex where
  | mk (k : Int) (name : ByteArray) (l : List Ex)
abbrev Ex.k : Ex → Int | .mk k _ _ => k
abbrev Ex.name : Ex → ByteArray | .mk _ n _ => n
abbrev Ex.l : Ex → List Ex | .mk _ _ l => l
mutual
def Ex.cnt : Ex → Nat | .mk _ _ l => 1 + Ex.cnts l
def Ex.cnts : List Ex → Nat | [] => 0 | x :: r => x.cnt + Ex.cnts r
end
mutual
def Ex.dep : Ex → Nat | .mk _ _ l => 1 + Ex.deps l
def Ex.deps : List Ex → Nat | [] => 0 | x :: r => max x.dep (Ex.deps r)
end
theorem Ex.cnts_sum (l : List Ex) : Ex.cnts l = (l.map Ex.cnt).sum := by
  induction l with
  | nil => rfl
  | cons x r ih => simp [Ex.cnts, ih]
theorem Ex.cnts_append (a b : List Ex) : Ex.cnts (a ++ b) = Ex.cnts a + Ex.cnts b := by simp [Ex.cnts_sum]
theorem Ex.deps_append (a b : List Ex) : Ex.deps (a ++ b) = max (Ex.deps a) (Ex.deps b) := by
  induction a with
  | nil => simp [Ex.deps]
  | cons x r ih => simp [Ex.deps, ih, Nat.max_assoc]
theorem Ex.cnt_mem {x : Ex} {l : List Ex} (h : x ∈ l) : x.cnt ≤ Ex.cnts l := by
  induction l with
  | nil => cases h
  | cons y r ih =>
    simp only [Ex.cnts]
    rcases List.mem_cons.1 h with rfl | h
    · omega
    · have := ih h; omega
theorem Ex.cnts_take (l : List Ex) (k : Nat) : Ex.cnts (l.take k) ≤ Ex.cnts l := by
  have := Ex.cnts_append (l.take k) (l.drop k)
  rw [List.take_append_drop] at this
  omega
theorem Ex.cnts_succ {l : List Ex} {k : Nat} {x : Ex} (hx : l[k]? = some x) : Ex.cnts (l.take (k + 1)) = Ex.cnts (l.take k) + x.cnt := by
  rw [List.take_add_one, hx, Ex.cnts_append]
  simp [Ex.cnts]
theorem Ex.deps_succ {l : List Ex} {k : Nat} {x : Ex} (hx : l[k]? = some x) : Ex.deps (l.take (k + 1)) = max (Ex.deps (l.take k)) x.dep := by
  rw [List.take_add_one, hx, Ex.deps_append]
  simp [Ex.deps]
theorem Ex.dep_mem {x : Ex} {l : List Ex} (h : x ∈ l) : x.dep ≤ Ex.deps l := by
  induction l with
  | nil => cases h
  | cons y r ih =>
    simp only [Ex.deps]
    rcases List.mem_cons.1 h with rfl | h
    · omega
    · have := ih h; omega
mutual
theorem Ex.dep_le_cnt : ∀ e : Ex, e.dep ≤ e.cnt
  | .mk k n l => by have := Ex.deps_le_cnts l; simp only [Ex.dep, Ex.cnt]; omega
theorem Ex.deps_le_cnts : ∀ l : List Ex, Ex.deps l ≤ Ex.cnts l
  | [] => by simp [Ex.deps, Ex.cnts]
  | x :: r => by have h1 := Ex.dep_le_cnt x; have h2 := Ex.deps_le_cnts r; simp only [Ex.deps, Ex.cnts]; omega
end
mutual
def Ex.wt : Ex → Nat | .mk _ nm l => 1 + nm.size + Ex.wts l
def Ex.wts : List Ex → Nat | [] => 0 | x :: r => x.wt + Ex.wts r
end
mutual
theorem Ex.cnt_le_wt : ∀ e : Ex, e.cnt ≤ e.wt
  | .mk k n l => by have := Ex.cnts_le_wts l; simp only [Ex.cnt, Ex.wt]; omega
theorem Ex.cnts_le_wts : ∀ l : List Ex, Ex.cnts l ≤ Ex.wts l
  | [] => by simp [Ex.cnts, Ex.wts]
  | x :: r => by have h1 := Ex.cnt_le_wt x; have h2 := Ex.cnts_le_wts r; simp only [Ex.cnts, Ex.wts]; omega
end
theorem Ex.wt_mem {x : Ex} {l : List Ex} (h : x ∈ l) : x.wt ≤ Ex.wts l := by
  induction l with
  | nil => cases h
  | cons y r ih =>
    simp only [Ex.wts]
    rcases List.mem_cons.1 h with rfl | h
    · omega
    · have := ih h; omega
theorem Ex.wts_len (l : List Ex) : l.length ≤ Ex.wts l := by
  induction l with
  | nil => simp
  | cons x r ih => cases x; simp only [Ex.wts, Ex.wt, List.length_cons]; omega
theorem Ex.wt_pos (e : Ex) : 1 ≤ e.wt := by cases e; simp [Ex.wt]; omega
theorem Ex.cnt_pos (e : Ex) : 1 ≤ e.cnt := by cases e; simp [Ex.cnt]; 

/-- How an expression lies: its three cells. -/
inductive ExRep (w : World) (F : Nat → Prop) : Ex → List Value → Prop
  | mk (k : Int) (nm : ByteArray) (l : List Ex) (A : Option Addr) (c : Nat) (css : Nat → List Value) (hle : l.length ≤ c) (hr : ∀ j x, l[j]? = some x → ExRep w F x (css j))
      (hp : l = [] ∨ ∃ b o, A = some ⟨b, o, none⟩ ∧ F b ∧ b < w.heap.size ∧ ∀ j x, l[j]? = some x → ∀ i u, (css j)[i]? = some u → w.cell? ⟨b, o + j * 3 + i, none⟩ = some u) :
      ExRep w F (.mk k nm l) [.int .i64 k, .string nm, .slice A l.length c]

theorem ExRep.move {w w1 : World} {F G : Nat → Prop} {e : Ex} {cs : List Value} (hm : ∀ k, F k → k < w.heap.size → G k ∧ k < w1.heap.size ∧ w1.heap[k]? = w.heap[k]?) (h : ExRep w F e cs) : ExRep w1 G e cs := by
  induction h with
  | mk k nm l A c css hle hr hp ih =>
    refine .mk k nm l A c css hle ih ?_
    rcases hp with hp | ⟨b, o, hA, hF, hb, hc⟩
    · exact .inl hp
    · obtain ⟨hG, hb1, he⟩ := hm b hF hb
      refine .inr ⟨b, o, hA, hG, hb1, fun j x hx i u hu => ?_⟩
      rw [← hc j x hx i u hu]
      simp [World.cell?, he]

def exR : Rp Ex where
  sz := 3
  rep := ExRep
  len := fun h => by cases h; rfl
  one := fun h u hu => by
    cases h
    simp at hu
    rcases hu with rfl | rfl | rfl <;> rfl
  move := ExRep.move

/-- Its parts. -/
theorem ExRep.parts {w : World} {F : Nat → Prop} {e : Ex} {cs : List Value} (h : ExRep w F e cs) : ∃ A c, cs = [.int .i64 e.k, .string e.name, .slice A e.l.length c] ∧ e.l.length ≤ c ∧ exR.row w F A e.l := by
  cases h with
  | mk k nm l A c css hle hr hp =>
    refine ⟨A, c, rfl, hle, ?_⟩
    rcases hp with hp | ⟨b, o, hA, hF, hb, hc⟩
    · exact .inl hp
    · exact .inr ⟨b, o, hA, hF, hb, fun j x hx => ⟨css j, hr j x hx, hc j x hx⟩⟩

theorem ExRep.of_parts {w : World} {F : Nat → Prop} {k : Int} {nm : ByteArray} {l : List Ex} {A : Option Addr} {c : Nat} (hl : l.length ≤ c) (h : exR.row w F A l) : ExRep w F (.mk k nm l) [.int .i64 k, .string nm, .slice A l.length c] := by
  rcases h with rfl | ⟨b, o, hA, hF, hb, hc⟩
  · exact .mk k nm [] A c (fun _ => []) hl (fun j x hx => by simp at hx) (.inl rfl)
  · have hex : ∃ css : Nat → List Value, ∀ j x, l[j]? = some x → ExRep w F x (css j) ∧ ∀ i u, (css j)[i]? = some u → w.cell? ⟨b, o + j * 3 + i, none⟩ = some u := by
      classical
      refine ⟨fun j => if h : ∃ cs, ∀ x, l[j]? = some x → ExRep w F x cs ∧ ∀ i u, cs[i]? = some u → w.cell? ⟨b, o + j * 3 + i, none⟩ = some u then h.choose else [], fun j x hx => ?_⟩
      have hh : ∃ cs, ∀ x, l[j]? = some x → ExRep w F x cs ∧ ∀ i u, cs[i]? = some u → w.cell? ⟨b, o + j * 3 + i, none⟩ = some u := by
        obtain ⟨cs, h1, h2⟩ := hc j x hx
        refine ⟨cs, fun y hy => ?_⟩
        rw [hx] at hy
        cases hy
        exact ⟨h1, h2⟩
      simp only [dif_pos hh]
      exact hh.choose_spec x hx
    obtain ⟨css, hcss⟩ := hex
    exact .mk k nm l A c css hl (fun j x hx => (hcss j x hx).1) (.inr ⟨b, o, hA, hF, hb, fun j x hx => (hcss j x hx).2⟩)

/-- An expression of a row that is read. -/
theorem ex_at {w : World} {F : Nat → Prop} {A : Option Addr} {xs : List Ex} (h : exR.row w F A xs) {j : Nat} {x : Ex} (hx : xs[j]? = some x) :
    ∃ b o A1 c1, A = some ⟨b, o, none⟩ ∧ F b ∧ b < w.heap.size ∧ w.cell? ⟨b, o + j * 3, none⟩ = some (.int .i64 x.k) ∧ w.cell? ⟨b, o + j * 3 + 1, none⟩ = some (.string x.name) ∧ w.cell? ⟨b, o + j * 3 + 2, none⟩ = some (.slice A1 x.l.length c1) ∧ x.l.length ≤ c1 ∧ exR.row w F A1 x.l := by
  obtain ⟨b, o, cs, hA, hF, hb, hr, hc⟩ := Rp.row_at h hx
  obtain ⟨A1, c1, rfl, hle, hrow⟩ := ExRep.parts hr
  exact ⟨b, o, A1, c1, hA, hF, hb, hc 0 _ rfl, hc 1 _ rfl, hc 2 _ rfl, hle, hrow⟩

abbrev intR : Rp Int := Rp.int .i64
theorem int_at {w : World} {F : Nat → Prop} {A : Option Addr} {xs : List Int} (h : intR.row w F A xs) {j : Nat} {x : Int} (hx : xs[j]? = some x) :
    ∃ b o, A = some ⟨b, o, none⟩ ∧ F b ∧ b < w.heap.size ∧ w.cell? ⟨b, o + j, none⟩ = some (.int .i64 x) := by
  obtain ⟨b, o, cs, hA, hF, hb, hr, hc⟩ := Rp.row_at h hx
  have hr' : cs = [.int .i64 x] := hr
  subst hr'
  have := hc 0 _ rfl
  rw [show (intR.sz) = 1 from rfl, Nat.mul_one] at this
  exact ⟨b, o, hA, hF, hb, this⟩

structure Grp where
  name : ByteArray
  types : List Int
def grpR : Rp Grp where
  sz := 2
  rep := fun w F x cs => ∃ A c, cs = [.string x.name, .slice A x.types.length c] ∧ x.types.length ≤ c ∧ intR.row w F A x.types
  len := by
    rintro w F x cs ⟨A, c, rfl, _⟩
    rfl
  one := by
    rintro w F x cs ⟨A, c, rfl, _⟩ u hu
    simp at hu
    rcases hu with rfl | rfl <;> rfl
  move := by
    rintro w w1 F G x cs hm ⟨A, c, rfl, hl, hr⟩
    exact ⟨A, c, rfl, hl, Rp.row_move hm hr⟩
theorem grp_at {w : World} {F : Nat → Prop} {A : Option Addr} {xs : List Grp} (h : grpR.row w F A xs) {j : Nat} {x : Grp} (hx : xs[j]? = some x) :
    ∃ b o A1 c1, A = some ⟨b, o, none⟩ ∧ F b ∧ b < w.heap.size ∧ w.cell? ⟨b, o + j * 2, none⟩ = some (.string x.name) ∧ w.cell? ⟨b, o + j * 2 + 1, none⟩ = some (.slice A1 x.types.length c1) ∧ x.types.length ≤ c1 ∧ intR.row w F A1 x.types := by
  obtain ⟨b, o, cs, hA, hF, hb, hr, hc⟩ := Rp.row_at h hx
  obtain ⟨A1, c1, rfl, hle, hrow⟩ := hr
  exact ⟨b, o, A1, c1, hA, hF, hb, hc 0 _ rfl, hc 1 _ rfl, hle, hrow⟩
theorem int_info : (Tryz.prog.info? 3).map (fun i => (i.zero, i.size, i.bytes)) = some (some (.int .i64 0), 1, 8) := by kernel_rfl
end Go.Proofs.YtfapglhdakhbeaaGreatDoor
namespace Go.Proofs.YtfapglhdakhbeaaGreatDoor
open Go.RowKit
set_option linter.unusedVariables false
set_option linter.unusedSimpArgs false

theorem ret_int {k : IntKind} {a b : Int} (h : a = b) : Ending.returned (.int k a) = .returned (.int k b) := by rw [h]
theorem ret_bool {a b : Bool} (h : a = b) : Ending.returned (.bool a) = .returned (.bool b) := by rw [h]
theorem drop_cons' {α : Type} {l : List α} {k : Nat} {x : α} (h : l[k]? = some x) : l.drop k = x :: l.drop (k + 1) := by
  obtain ⟨hk, he⟩ := List.getElem?_eq_some_iff.1 h
  rw [List.drop_eq_getElem_cons hk, he]

abbrev Ex.val (e : Ex) (A : Option Addr) (c : Nat) : Value := .agg #[.int .i64 e.k, .string e.name, .slice A e.l.length c]

theorem size_all (N : Nat) : ∀ (e : Ex), e.cnt ≤ N → N ≤ 1048576 * 4 → ∀ (F : Nat → Prop) (A : Option Addr) (c : Nat) (w : World), exR.row w F A e.l →
    Calls Tryz.prog 196 #[e.val A c] w fun r w' => r = .returned (.tuple #[.int .i64 e.cnt, .int .i64 e.dep]) ∧ Pure w w' := by
  induction N with
  | zero => intro e he; have := e.cnt_pos; omega
  | succ N ih =>
    intro e he hN F A c w hr
    obtain ⟨k0, nm, l⟩ := e
    have HI := As.mk (fun (x : Ex) (hx : x.cnt ≤ N) => ih x hx (by omega))
    have HR := As.mk hr
    have hc0 : Ex.cnts l ≤ N := by simp only [Ex.cnt] at he; omega
    have hd0 : Ex.deps l ≤ Ex.cnts l := Ex.deps_le_cnts l
    have hll : l.length ≤ Ex.cnts l := by
      clear he HI HR hr hc0 hd0
      induction l with
      | nil => simp
      | cons x r ih => have := x.cnt_pos; simp only [Ex.cnts, List.length_cons]; omega
    clear hr he ih
    go_enter Tryz.func196, Tryz.ntmps196
    go_wp2
    go_loopg [4, 5, 13] l.length (fun g n d i wr => ∃ k : Nat, k + g = l.length ∧ i = .int .i64 k ∧ n = .int .i64 ((1 + Ex.cnts (l.take k) : Nat) : Int) ∧ d = .int .i64 ((Ex.deps (l.take k) : Nat) : Int) ∧ As (Pure w wr))
    case atStart => exact ⟨0, by omega, rfl, rfl, rfl, ⟨(Upd.refl _ _).alloc _⟩⟩
    case round =>
      obtain ⟨k, hk, rfl, rfl, rfl, HP⟩ := hrel
      by_cases hlt : k < l.length
      · obtain ⟨x, hx⟩ : ∃ x, l[k]? = some x := ⟨_, List.getElem?_eq_getElem hlt⟩
        obtain ⟨b, o, A1, c1, rfl, hF, hbl, c0, c1', c2, hle1, hrow1⟩ := ex_at (Rp.row_pure HR.out HP.out) hx
        obtain ⟨g1, rfl⟩ : ∃ m, gk = m + 1 := ⟨gk - 1, by omega⟩
        have hx1 : x.cnt ≤ N := Nat.le_trans (Ex.cnt_mem (List.mem_of_getElem? hx)) hc0
        have hct := Ex.cnts_take l k
        have hct2 := Ex.cnts_take l (k + 1)
        have hdt := Ex.deps_le_cnts (l.take k)
        have hxd := Ex.dep_le_cnt x
        have H1 := As.mk (Ex.cnts_succ hx)
        have H2 := As.mk (Ex.deps_succ hx)
        rw [H1.out] at hct2
        have HR1 := As.mk hrow1
        have HK := As.mk hk
        clear hrow1 hk hx
        go_wp2_with (go_at_call 196; refine (HI.out x hx1 _ _ c1 _ (Rp.row_pure HR1.out (Upd.alloc1 _ _ _))).mono ?_; rintro e w1 ⟨rfl, hu⟩; have HU := As.mk (show Pure wr w1 from Upd.trans (Upd.alloc1 _ _ _) hu (fun _ _ h => h)); clear hu)
        all_goals
          go_roundg g1
          case measure => omega
          case rel => exact ⟨k + 1, by have := HK.out; omega, by go_num, by rw [H1.out]; go_num, by rw [H2.out]; congr 1; omega, ⟨Upd.trans HP.out HU.out (fun _ _ h => h)⟩⟩
      · have hkl : k = l.length := by omega
        subst hkl
        rw [List.take_length]
        go_wp2
        go_ret2
        refine ⟨?_, HP.out⟩
        simp only [Ex.cnt, Ex.dep, Int.natCast_add, Int.add_comm]
        rfl
theorem size_calls {F : Nat → Prop} {A : Option Addr} {c : Nat} {e : Ex} {w : World} (hr : exR.row w F A e.l) (hb : e.cnt ≤ 1048576 * 4) :
    Calls Tryz.prog 196 #[e.val A c] w fun r w' => r = .returned (.tuple #[.int .i64 e.cnt, .int .i64 e.dep]) ∧ Pure w w' :=
  size_all (1048576 * 4) e hb (Nat.le_refl _) F A c w hr

theorem empty_is (s : ByteArray) : s.toList.isEmpty = decide (s.size = 0) := by
  rw [ByteArray.toList_eq]
  have e : s.data.toList.length = s.size := by rw [Array.length_toList]; rfl
  cases h : s.data.toList with
  | nil => rw [h] at e; simp at e; simp [← e]
  | cons x r => rw [h] at e; simp at e; simp [← e]
/-- A name: small letters, one at the least. -/
def lettB (c : UInt8) : Bool := decide (97 ≤ c.toNat) && decide (c.toNat ≤ 122)
def nameB (s : ByteArray) : Bool := s.data.toList.all lettB && decide (s.size ≠ 0)

set_option maxRecDepth 100000 in
set_option maxHeartbeats 4000000 in
theorem Name_calls (s : ByteArray) (w : World) (hs : s.size ≤ 1048576 * 4) : Calls Tryz.prog 165 #[.string s] w fun r w' => r = .returned (.bool (nameB s)) ∧ Pure w w' := by
  have hconv := fun W : World => run_bytes_of_string (P := Tryz.prog) W 9 72 5 s Tryz.underlying9 Tryz.underlying72 Tryz.underlying5
  have hfits : s.data.size = s.size := rfl
  go_enter Tryz.func165, Tryz.ntmps165
  go_wp2
  generalize hcap : grownCap w s.size 0 5 = cap
  go_loopg [4, 8] s.size (fun g c i wr => ∃ k : Nat, k + g = s.size ∧ i = .int .i64 k ∧ As ((s.data.toList.take k).all lettB = true) ∧ As (Pure w wr ∧ w.heap.size < wr.heap.size ∧ ∃ fr, wr.heap[w.heap.size]? = some (.cells (bytesRow s cap) 5 fr)))
  case atStart => exact ⟨0, by omega, rfl, ⟨by simp⟩, ⟨((Upd.refl _ _).drew).alloc _, by simp, _, heap_alloc_new _ _⟩⟩
  case round =>
    obtain ⟨k, hk, rfl, HA, HB⟩ := hrel
    obtain ⟨hp, hz, fr, hblk⟩ := HB.out
    by_cases hlt : k < s.size
    · obtain ⟨g1, rfl⟩ : ∃ m, gk = m + 1 := ⟨gk - 1, by omega⟩
      have hlt' : k < s.data.size := hlt
      have hcell : wr.cell? ⟨w.heap.size, k, none⟩ = some (.int .u8 (s.data[k].toNat : Int)) := by
        have := bytesRow_at s cap k hlt'
        simp [World.cell?, hblk, this]
      have hx : s.data.toList[k]? = some s.data[k] := by simp [hlt']
      have HT : As ((s.data.toList.take (k + 1)).all lettB = ((s.data.toList.take k).all lettB && lettB s.data[k])) := ⟨by rw [List.take_add_one, hx, List.all_append]; simp⟩
      rw [HA.out] at HT
      have HN : As (lettB s.data[k] = false → nameB s = false) := ⟨fun h => by
        have : s.data.toList.all lettB = false := by
          rw [List.all_eq_false]
          exact ⟨_, List.mem_of_getElem? hx, by simp [h]⟩
        simp [nameB, this]⟩
      generalize hc : s.data[k] = c at *
      have HK := As.mk hk
      have HP := As.mk hp
      have HL := As.mk hblk
      have h256 := c.toNat_lt
      clear hk hp hblk hx hc HB
      by_cases h1 : c.toNat < 97
      · have hn := As.mk (HN.out (by simp [lettB]; omega))
        have e1 : ((c.toNat : Int) < 97) := by omega
        go_wp2
        go_ret
        exact ⟨ret_bool hn.out.symm, HP.out⟩
      · by_cases h2 : 122 < c.toNat
        · have hn := As.mk (HN.out (by simp [lettB]; omega))
          have e1 : ¬ ((c.toNat : Int) < 97) := by omega
          have e2 : ((c.toNat : Int) > 122) := by omega
          go_wp2
          go_ret
          exact ⟨ret_bool hn.out.symm, HP.out⟩
        · have HC : As (lettB c = true) := ⟨by simp [lettB]; omega⟩
          have e1 : ¬ ((c.toNat : Int) < 97) := by omega
          have e2 : ¬ ((c.toNat : Int) > 122) := by omega
          go_wp2
          go_roundg g1
          case measure => omega
          case rel => exact ⟨k + 1, by have := HK.out; omega, by go_num, ⟨by rw [HT.out, HC.out]; rfl⟩, ⟨HP.out, hz, fr, HL.out⟩⟩
    · have hkl : k = s.size := by omega
      have HA' : As (s.data.toList.all lettB = true) := ⟨by have := HA.out; rwa [List.take_of_length_le (by simp; omega)] at this⟩
      subst hkl
      have HP := As.mk hp
      clear hp hblk HB HA
      go_wp2
      go_ret
      refine ⟨ret_bool ?_, HP.out⟩
      rw [nameB, HA'.out, Bool.true_and, empty_is]
      by_cases h : s.size = 0 <;> simp [h]
/-- A tree is, within one of the kind i. -/
def leastE (k : Int) : Nat := if k = 0 then 0 else if k = 2 ∨ k = 3 then 2 else 1
def mostE (k : Int) (n : Nat) : Nat := if k = 0 then 0 else if k = 2 ∨ k = 3 then n else 1
mutual
def Ex.okB : Int → Ex → Bool
  | i, .mk k nm l =>
    if k = 1 then nameB nm && decide (l.length = 0)
    else if (k = 0 ∧ i ≠ 0) ∨ ((k = 2 ∨ k = 3) ∧ i = k) ∨ ¬ (k = 0 ∨ k = 2 ∨ k = 3 ∨ k = 4 ∨ k = 5 ∨ k = 6) then false
    else Ex.oksB k l && decide (nm.size = 0) && decide (leastE k ≤ l.length) && decide (l.length ≤ mostE k l.length)
def Ex.oksB : Int → List Ex → Bool
  | _, [] => true
  | i, x :: r => Ex.okB i x && Ex.oksB i r
end
theorem Ex.oksB_all (i : Int) (l : List Ex) : Ex.oksB i l = l.all (Ex.okB i) := by
  induction l with
  | nil => rfl
  | cons x r ih => simp [Ex.oksB, ih]
theorem Ex.oks_succ {i : Int} {l : List Ex} {k : Nat} {x : Ex} (hx : l[k]? = some x) : Ex.oksB i (l.take (k + 1)) = (Ex.oksB i (l.take k) && Ex.okB i x) := by
  rw [List.take_add_one, hx, Ex.oksB_all, Ex.oksB_all, List.all_append]
  simp
theorem Ex.oks_mem {i : Int} {l : List Ex} {x : Ex} (hx : x ∈ l) (h : Ex.okB i x = false) : Ex.oksB i l = false := by
  rw [Ex.oksB_all, List.all_eq_false]
  exact ⟨x, hx, by simp [h]⟩

theorem right_early {i k : Int} {nm : ByteArray} {l : List Ex} (h1 : k ≠ 1) (h : (k = 0 ∧ i ≠ 0) ∨ ((k = 2 ∨ k = 3) ∧ i = k) ∨ ¬ (k = 0 ∨ k = 2 ∨ k = 3 ∨ k = 4 ∨ k = 5 ∨ k = 6)) : Ex.okB i (.mk k nm l) = false := by
  rw [Ex.okB, if_neg h1, if_pos h]
theorem right_late {i k : Int} {nm : ByteArray} {l : List Ex} (h1 : k ≠ 1) (h : ¬ ((k = 0 ∧ i ≠ 0) ∨ ((k = 2 ∨ k = 3) ∧ i = k) ∨ ¬ (k = 0 ∨ k = 2 ∨ k = 3 ∨ k = 4 ∨ k = 5 ∨ k = 6))) :
    Ex.okB i (.mk k nm l) = (Ex.oksB k l && decide (nm.size = 0) && decide (leastE k ≤ l.length) && decide (l.length ≤ mostE k l.length)) := by
  rw [Ex.okB, if_neg h1, if_neg h]

/-- The box of an expression. -/
def BoxE (b : Nat) (k : Int) (nm : ByteArray) (n : Nat) (A : Option Addr) (c : Nat) (w : World) : Prop :=
  w.cell? ⟨b, 0, none⟩ = some (.int .i64 k) ∧ w.cell? ⟨b, 1, none⟩ = some (.string nm) ∧ w.cell? ⟨b, 2, none⟩ = some (.slice A n c) ∧ b < w.heap.size
theorem BoxE.pure {b : Nat} {k : Int} {nm : ByteArray} {n : Nat} {A : Option Addr} {c : Nat} {w w1 : World} (h : BoxE b k nm n A c w) (hu : Pure w w1) : BoxE b k nm n A c w1 := by
  obtain ⟨h0, h1, h2, h3⟩ := h
  exact ⟨(hu.cell h3 (fun h => h)).trans h0, (hu.cell h3 (fun h => h)).trans h1, (hu.cell h3 (fun h => h)).trans h2, Nat.lt_of_lt_of_le h3 hu.size⟩
theorem BoxE.new (w : World) (k : Int) (nm : ByteArray) (n : Nat) (A : Option Addr) (c : Nat) (t : TypeId) : BoxE w.heap.size k nm n A c (w.alloc (.cells #[.int .i64 k, .string nm, .slice A n c] t)) := by
  have h := heap_alloc_new w (.cells #[.int .i64 k, .string nm, .slice A n c] t)
  exact ⟨by unfold World.cell?; simp only [h]; rfl, by unfold World.cell?; simp only [h]; rfl, by unfold World.cell?; simp only [h]; rfl, by simp⟩

set_option maxRecDepth 100000 in
set_option maxHeartbeats 4000000 in
theorem right_all (N : Nat) : ∀ (e : Ex) (i : Int), e.wt ≤ N → N ≤ 1048576 * 4 → ∀ (F : Nat → Prop) (A : Option Addr) (c : Nat) (w : World), exR.row w F A e.l →
    Calls Tryz.prog 197 #[e.val A c, .int .i64 i] w fun r w' => r = .returned (.bool (e.okB i)) ∧ Pure w w' := by
  induction N with
  | zero => intro e i he; have := e.wt_pos; omega
  | succ N ih =>
    intro e i he hN F A c w hr
    obtain ⟨k0, nm, l⟩ := e
    have HI := As.mk (fun (x : Ex) (i : Int) (hx : x.wt ≤ N) => ih x i hx (by omega))
    have HR := As.mk hr
    have hc0 : Ex.wts l ≤ N := by simp only [Ex.wt] at he; omega
    have hs0 : nm.size ≤ 1048576 * 4 := by simp only [Ex.wt] at he; omega
    have hll := Ex.wts_len l
    clear hr he ih
    by_cases h1 : k0 = 1
    · subst h1
      have HV : As (Ex.okB i (.mk 1 nm l) = (nameB nm && decide (l.length = 0))) := ⟨by rw [Ex.okB, if_pos rfl]⟩
      cases hq : nameB nm
      · have HV' := As.mk (show false = Ex.okB i (.mk 1 nm l) by rw [HV.out, hq]; rfl)
        clear HV
        go_enter Tryz.func197, Tryz.ntmps197
        go_wp2_with (go_at_call 165; refine (Name_calls nm _ hs0).mono ?_; rintro e w1 ⟨rfl, hu⟩; rw [hq]; have HU := As.mk (Upd.trans (Upd.alloc1 _ _ _) hu (fun _ _ h => h)); clear hu)
        go_ret
        exact ⟨ret_bool HV'.out, HU.out⟩
      · have HV' := As.mk (show decide (l.length = 0) = Ex.okB i (.mk 1 nm l) by rw [HV.out, hq]; rfl)
        clear HV
        go_enter Tryz.func197, Tryz.ntmps197
        go_wp2_with (go_at_call 165; refine (Name_calls nm _ hs0).mono ?_; rintro e w1 ⟨rfl, hu⟩; rw [hq]; obtain ⟨oc, of⟩ := hu.olds; have HU := As.mk (Upd.trans (Upd.alloc1 _ _ _) hu (fun _ _ h => h)); clear hu)
        go_ret
        exact ⟨ret_bool (by rw [← HV'.out]; show (((l.length : Nat) : Int) == 0) = _; rw [Bool.eq_iff_iff, beq_iff_eq, decide_eq_true_iff]; omega), HU.out⟩
    · by_cases h2 : (k0 = 0 ∧ i ≠ 0) ∨ ((k0 = 2 ∨ k0 = 3) ∧ i = k0) ∨ ¬ (k0 = 0 ∨ k0 = 2 ∨ k0 = 3 ∨ k0 = 4 ∨ k0 = 5 ∨ k0 = 6)
      · have HV := As.mk (right_early (nm := nm) (l := l) h1 h2)
        rcases h2 with ⟨rfl, h⟩ | ⟨rfl | rfl, rfl⟩ | h
        · have e0 : (i != 0) = true := by simp [h]
          clear h h1
          go_enter Tryz.func197, Tryz.ntmps197
          go_wp2
          go_ret
          exact ⟨ret_bool HV.out.symm, (Upd.refl _ _).alloc _⟩
        · clear h1
          go_enter Tryz.func197, Tryz.ntmps197
          go_wp2
          go_ret
          exact ⟨ret_bool HV.out.symm, (Upd.refl _ _).alloc _⟩
        · clear h1
          go_enter Tryz.func197, Tryz.ntmps197
          go_wp2
          go_ret
          exact ⟨ret_bool HV.out.symm, (Upd.refl _ _).alloc _⟩
        · have e0 : (k0 == 0) = false := by simp; omega
          have e1 : (k0 == 1) = false := by simp; omega
          have e2 : (k0 == 2) = false := by simp; omega
          have e3 : (k0 == 3) = false := by simp; omega
          have e4 : (k0 == 4) = false := by simp; omega
          have e5 : (k0 == 5) = false := by simp; omega
          have e6 : (k0 == 6) = false := by simp; omega
          clear h h1
          go_enter Tryz.func197, Tryz.ntmps197
          go_wp2
          go_ret
          exact ⟨ret_bool HV.out.symm, (Upd.refl _ _).alloc _⟩
      · have h3 : k0 = 0 ∨ k0 = 2 ∨ k0 = 3 ∨ k0 = 4 ∨ k0 = 5 ∨ k0 = 6 := by omega
        rcases h3 with rfl | rfl | rfl | rfl | rfl | rfl
        · have HV := As.mk (right_late (i := i) (k := 0) (nm := nm) (l := l) (by omega) (by omega))
          obtain rfl : i = 0 := by omega
          clear h1 h2
          go_enter Tryz.func197, Tryz.ntmps197
          go_wp2
          go_loopg [43] l.length (fun g i wr => ∃ k : Nat, k + g = l.length ∧ i = .int .i64 k ∧ As (Ex.oksB 0 (l.take k) = true) ∧ As (Pure w wr ∧ BoxE w.heap.size 0 nm l.length A c wr))
          case atStart => exact ⟨0, by omega, rfl, ⟨by simp [Ex.oksB]⟩, ⟨by first | exact (Upd.refl _ _).alloc _ | exact ((Upd.refl _ _).alloc _).drewN _, by first | exact BoxE.new w _ _ _ _ _ _ | exact (BoxE.new w _ _ _ _ _ _).pure ((Upd.refl _ _).drewN _)⟩⟩
          case round =>
            obtain ⟨k, hk, rfl, HA, HB⟩ := hrel
            obtain ⟨hp, hbx⟩ := HB.out
            have HP := As.mk hp
            have HX := As.mk hbx
            obtain ⟨b0, b1, b2, b3⟩ := hbx
            by_cases hlt : k < l.length
            · obtain ⟨x, hx⟩ : ∃ x, l[k]? = some x := ⟨_, List.getElem?_eq_getElem hlt⟩
              obtain ⟨b, o, A1, c1, rfl, hF, hbl, d0, d1, d2, hle1, hrow1⟩ := ex_at (Rp.row_pure HR.out hp) hx
              obtain ⟨g1, rfl⟩ : ∃ m, gk = m + 1 := ⟨gk - 1, by omega⟩
              have hx1 : x.wt ≤ N := Nat.le_trans (Ex.wt_mem (List.mem_of_getElem? hx)) hc0
              have HT := As.mk (Ex.oks_succ (i := 0) hx)
              rw [HA.out] at HT
              have HM := As.mk (fun h => Ex.oks_mem (i := 0) (List.mem_of_getElem? hx) h)
              have HR1 := As.mk hrow1
              have HK := As.mk hk
              clear hrow1 hk hx hp HB
              cases hq : Ex.okB 0 x
              · have HF := As.mk (show false = Ex.okB 0 (.mk 0 nm l) by rw [HV.out, HM.out hq]; rfl)
                go_wp2_with (go_at_call 197; with_reducible refine (HI.out x 0 hx1 _ _ c1 _ (Rp.row_pure HR1.out (Upd.alloc1 _ _ _))).mono ?_; rintro e w1 ⟨rfl, hu⟩; rw [hq]; have HU := As.mk (show Pure wr w1 from Upd.trans (Upd.alloc1 _ _ _) hu (fun _ _ h => h)); clear hu)
                go_ret
                exact ⟨ret_bool HF.out, HP.out.trans HU.out (fun _ _ h => h)⟩
              · rw [hq] at HT
                go_wp2_with (go_at_call 197; with_reducible refine (HI.out x 0 hx1 _ _ c1 _ (Rp.row_pure HR1.out (Upd.alloc1 _ _ _))).mono ?_; rintro e w1 ⟨rfl, hu⟩; rw [hq]; have HU := As.mk (show Pure wr w1 from Upd.trans (Upd.alloc1 _ _ _) hu (fun _ _ h => h)); clear hu)
                go_roundg g1
                case measure => omega
                case rel => exact ⟨k + 1, by have := HK.out; omega, by go_num, HT, ⟨HP.out.trans HU.out (fun _ _ h => h), HX.out.pure HU.out⟩⟩
            · have hkl : k = l.length := by omega
              subst hkl
              rw [List.take_length] at HA
              rw [HA.out, Bool.true_and] at HV
              clear hp HB
              by_cases a1 : nm.size = 0
              · have f1 : nm.toList.isEmpty = true := by rw [empty_is]; simp [a1]
                by_cases a2 : 0 ≤ l.length
                · have f2 : ((l.length : Int) ≥ 0) := by omega
                  have HF : As (decide (l.length ≤ mostE 0 l.length) = Ex.okB 0 (.mk 0 nm l)) := ⟨by rw [HV.out, decide_eq_true a1, decide_eq_true (show leastE 0 ≤ l.length from a2)]; rfl⟩
                  go_wp2
                  go_ret
                  refine ⟨ret_bool ?_, HP.out⟩
                  rw [← HF.out, Bool.eq_iff_iff]
                  simp [mostE]
                  try omega
                · exact absurd (Nat.zero_le _) a2
              · have f1 : nm.toList.isEmpty = false := by rw [empty_is]; simp [a1]
                have HF : As (false = Ex.okB 0 (.mk 0 nm l)) := ⟨by rw [HV.out, decide_eq_false a1]; rfl⟩
                go_wp2
                go_ret
                exact ⟨ret_bool HF.out, HP.out⟩
        · have HV := As.mk (right_late (i := i) (k := 2) (nm := nm) (l := l) (by omega) (by omega))
          have e0 : (i == 2) = false := by simp; omega
          clear h1 h2
          go_enter Tryz.func197, Tryz.ntmps197
          go_wp2
          go_quiet (fail)
          go_wp2
          go_loopg [43] l.length (fun g i wr => ∃ k : Nat, k + g = l.length ∧ i = .int .i64 k ∧ As (Ex.oksB 2 (l.take k) = true) ∧ As (Pure w wr ∧ BoxE w.heap.size 2 nm l.length A c wr))
          case atStart => exact ⟨0, by omega, rfl, ⟨by simp [Ex.oksB]⟩, ⟨by first | exact (Upd.refl _ _).alloc _ | exact ((Upd.refl _ _).alloc _).drewN _, by first | exact BoxE.new w _ _ _ _ _ _ | exact (BoxE.new w _ _ _ _ _ _).pure ((Upd.refl _ _).drewN _)⟩⟩
          case round =>
            obtain ⟨k, hk, rfl, HA, HB⟩ := hrel
            obtain ⟨hp, hbx⟩ := HB.out
            have HP := As.mk hp
            have HX := As.mk hbx
            obtain ⟨b0, b1, b2, b3⟩ := hbx
            by_cases hlt : k < l.length
            · obtain ⟨x, hx⟩ : ∃ x, l[k]? = some x := ⟨_, List.getElem?_eq_getElem hlt⟩
              obtain ⟨b, o, A1, c1, rfl, hF, hbl, d0, d1, d2, hle1, hrow1⟩ := ex_at (Rp.row_pure HR.out hp) hx
              obtain ⟨g1, rfl⟩ : ∃ m, gk = m + 1 := ⟨gk - 1, by omega⟩
              have hx1 : x.wt ≤ N := Nat.le_trans (Ex.wt_mem (List.mem_of_getElem? hx)) hc0
              have HT := As.mk (Ex.oks_succ (i := 2) hx)
              rw [HA.out] at HT
              have HM := As.mk (fun h => Ex.oks_mem (i := 2) (List.mem_of_getElem? hx) h)
              have HR1 := As.mk hrow1
              have HK := As.mk hk
              clear hrow1 hk hx hp HB
              cases hq : Ex.okB 2 x
              · have HF := As.mk (show false = Ex.okB i (.mk 2 nm l) by rw [HV.out, HM.out hq]; rfl)
                go_wp2_with (go_at_call 197; with_reducible refine (HI.out x 2 hx1 _ _ c1 _ (Rp.row_pure HR1.out (Upd.alloc1 _ _ _))).mono ?_; rintro e w1 ⟨rfl, hu⟩; rw [hq]; have HU := As.mk (show Pure wr w1 from Upd.trans (Upd.alloc1 _ _ _) hu (fun _ _ h => h)); clear hu)
                go_ret
                exact ⟨ret_bool HF.out, HP.out.trans HU.out (fun _ _ h => h)⟩
              · rw [hq] at HT
                go_wp2_with (go_at_call 197; with_reducible refine (HI.out x 2 hx1 _ _ c1 _ (Rp.row_pure HR1.out (Upd.alloc1 _ _ _))).mono ?_; rintro e w1 ⟨rfl, hu⟩; rw [hq]; have HU := As.mk (show Pure wr w1 from Upd.trans (Upd.alloc1 _ _ _) hu (fun _ _ h => h)); clear hu)
                go_roundg g1
                case measure => omega
                case rel => exact ⟨k + 1, by have := HK.out; omega, by go_num, HT, ⟨HP.out.trans HU.out (fun _ _ h => h), HX.out.pure HU.out⟩⟩
            · have hkl : k = l.length := by omega
              subst hkl
              rw [List.take_length] at HA
              rw [HA.out, Bool.true_and] at HV
              clear hp HB
              by_cases a1 : nm.size = 0
              · have f1 : nm.toList.isEmpty = true := by rw [empty_is]; simp [a1]
                by_cases a2 : 2 ≤ l.length
                · have f2 : ((l.length : Int) ≥ 2) := by omega
                  have HF : As (decide (l.length ≤ mostE 2 l.length) = Ex.okB i (.mk 2 nm l)) := ⟨by rw [HV.out, decide_eq_true a1, decide_eq_true (show leastE 2 ≤ l.length from a2)]; rfl⟩
                  go_wp2
                  go_ret
                  refine ⟨ret_bool ?_, HP.out⟩
                  rw [← HF.out, Bool.eq_iff_iff]
                  simp [mostE]
                  try omega
                · have f2 : ¬ ((l.length : Int) ≥ 2) := by omega
                  have HF : As (false = Ex.okB i (.mk 2 nm l)) := ⟨by rw [HV.out, decide_eq_true a1, decide_eq_false (show ¬ leastE 2 ≤ l.length from a2)]; rfl⟩
                  go_wp2
                  go_ret
                  exact ⟨ret_bool HF.out, HP.out⟩
              · have f1 : nm.toList.isEmpty = false := by rw [empty_is]; simp [a1]
                have HF : As (false = Ex.okB i (.mk 2 nm l)) := ⟨by rw [HV.out, decide_eq_false a1]; rfl⟩
                go_wp2
                go_ret
                exact ⟨ret_bool HF.out, HP.out⟩
        · have HV := As.mk (right_late (i := i) (k := 3) (nm := nm) (l := l) (by omega) (by omega))
          have e0 : (i == 3) = false := by simp; omega
          clear h1 h2
          go_enter Tryz.func197, Tryz.ntmps197
          go_wp2
          go_quiet (fail)
          go_wp2
          go_loopg [43] l.length (fun g i wr => ∃ k : Nat, k + g = l.length ∧ i = .int .i64 k ∧ As (Ex.oksB 3 (l.take k) = true) ∧ As (Pure w wr ∧ BoxE w.heap.size 3 nm l.length A c wr))
          case atStart => exact ⟨0, by omega, rfl, ⟨by simp [Ex.oksB]⟩, ⟨by first | exact (Upd.refl _ _).alloc _ | exact ((Upd.refl _ _).alloc _).drewN _, by first | exact BoxE.new w _ _ _ _ _ _ | exact (BoxE.new w _ _ _ _ _ _).pure ((Upd.refl _ _).drewN _)⟩⟩
          case round =>
            obtain ⟨k, hk, rfl, HA, HB⟩ := hrel
            obtain ⟨hp, hbx⟩ := HB.out
            have HP := As.mk hp
            have HX := As.mk hbx
            obtain ⟨b0, b1, b2, b3⟩ := hbx
            by_cases hlt : k < l.length
            · obtain ⟨x, hx⟩ : ∃ x, l[k]? = some x := ⟨_, List.getElem?_eq_getElem hlt⟩
              obtain ⟨b, o, A1, c1, rfl, hF, hbl, d0, d1, d2, hle1, hrow1⟩ := ex_at (Rp.row_pure HR.out hp) hx
              obtain ⟨g1, rfl⟩ : ∃ m, gk = m + 1 := ⟨gk - 1, by omega⟩
              have hx1 : x.wt ≤ N := Nat.le_trans (Ex.wt_mem (List.mem_of_getElem? hx)) hc0
              have HT := As.mk (Ex.oks_succ (i := 3) hx)
              rw [HA.out] at HT
              have HM := As.mk (fun h => Ex.oks_mem (i := 3) (List.mem_of_getElem? hx) h)
              have HR1 := As.mk hrow1
              have HK := As.mk hk
              clear hrow1 hk hx hp HB
              cases hq : Ex.okB 3 x
              · have HF := As.mk (show false = Ex.okB i (.mk 3 nm l) by rw [HV.out, HM.out hq]; rfl)
                go_wp2_with (go_at_call 197; with_reducible refine (HI.out x 3 hx1 _ _ c1 _ (Rp.row_pure HR1.out (Upd.alloc1 _ _ _))).mono ?_; rintro e w1 ⟨rfl, hu⟩; rw [hq]; have HU := As.mk (show Pure wr w1 from Upd.trans (Upd.alloc1 _ _ _) hu (fun _ _ h => h)); clear hu)
                go_ret
                exact ⟨ret_bool HF.out, HP.out.trans HU.out (fun _ _ h => h)⟩
              · rw [hq] at HT
                go_wp2_with (go_at_call 197; with_reducible refine (HI.out x 3 hx1 _ _ c1 _ (Rp.row_pure HR1.out (Upd.alloc1 _ _ _))).mono ?_; rintro e w1 ⟨rfl, hu⟩; rw [hq]; have HU := As.mk (show Pure wr w1 from Upd.trans (Upd.alloc1 _ _ _) hu (fun _ _ h => h)); clear hu)
                go_roundg g1
                case measure => omega
                case rel => exact ⟨k + 1, by have := HK.out; omega, by go_num, HT, ⟨HP.out.trans HU.out (fun _ _ h => h), HX.out.pure HU.out⟩⟩
            · have hkl : k = l.length := by omega
              subst hkl
              rw [List.take_length] at HA
              rw [HA.out, Bool.true_and] at HV
              clear hp HB
              by_cases a1 : nm.size = 0
              · have f1 : nm.toList.isEmpty = true := by rw [empty_is]; simp [a1]
                by_cases a2 : 2 ≤ l.length
                · have f2 : ((l.length : Int) ≥ 2) := by omega
                  have HF : As (decide (l.length ≤ mostE 3 l.length) = Ex.okB i (.mk 3 nm l)) := ⟨by rw [HV.out, decide_eq_true a1, decide_eq_true (show leastE 3 ≤ l.length from a2)]; rfl⟩
                  go_wp2
                  go_ret
                  refine ⟨ret_bool ?_, HP.out⟩
                  rw [← HF.out, Bool.eq_iff_iff]
                  simp [mostE]
                  try omega
                · have f2 : ¬ ((l.length : Int) ≥ 2) := by omega
                  have HF : As (false = Ex.okB i (.mk 3 nm l)) := ⟨by rw [HV.out, decide_eq_true a1, decide_eq_false (show ¬ leastE 3 ≤ l.length from a2)]; rfl⟩
                  go_wp2
                  go_ret
                  exact ⟨ret_bool HF.out, HP.out⟩
              · have f1 : nm.toList.isEmpty = false := by rw [empty_is]; simp [a1]
                have HF : As (false = Ex.okB i (.mk 3 nm l)) := ⟨by rw [HV.out, decide_eq_false a1]; rfl⟩
                go_wp2
                go_ret
                exact ⟨ret_bool HF.out, HP.out⟩
        · have HV := As.mk (right_late (i := i) (k := 4) (nm := nm) (l := l) (by omega) (by omega))
          clear h1 h2
          go_enter Tryz.func197, Tryz.ntmps197
          go_wp2
          go_loopg [43] l.length (fun g i wr => ∃ k : Nat, k + g = l.length ∧ i = .int .i64 k ∧ As (Ex.oksB 4 (l.take k) = true) ∧ As (Pure w wr ∧ BoxE w.heap.size 4 nm l.length A c wr))
          case atStart => exact ⟨0, by omega, rfl, ⟨by simp [Ex.oksB]⟩, ⟨by first | exact (Upd.refl _ _).alloc _ | exact ((Upd.refl _ _).alloc _).drewN _, by first | exact BoxE.new w _ _ _ _ _ _ | exact (BoxE.new w _ _ _ _ _ _).pure ((Upd.refl _ _).drewN _)⟩⟩
          case round =>
            obtain ⟨k, hk, rfl, HA, HB⟩ := hrel
            obtain ⟨hp, hbx⟩ := HB.out
            have HP := As.mk hp
            have HX := As.mk hbx
            obtain ⟨b0, b1, b2, b3⟩ := hbx
            by_cases hlt : k < l.length
            · obtain ⟨x, hx⟩ : ∃ x, l[k]? = some x := ⟨_, List.getElem?_eq_getElem hlt⟩
              obtain ⟨b, o, A1, c1, rfl, hF, hbl, d0, d1, d2, hle1, hrow1⟩ := ex_at (Rp.row_pure HR.out hp) hx
              obtain ⟨g1, rfl⟩ : ∃ m, gk = m + 1 := ⟨gk - 1, by omega⟩
              have hx1 : x.wt ≤ N := Nat.le_trans (Ex.wt_mem (List.mem_of_getElem? hx)) hc0
              have HT := As.mk (Ex.oks_succ (i := 4) hx)
              rw [HA.out] at HT
              have HM := As.mk (fun h => Ex.oks_mem (i := 4) (List.mem_of_getElem? hx) h)
              have HR1 := As.mk hrow1
              have HK := As.mk hk
              clear hrow1 hk hx hp HB
              cases hq : Ex.okB 4 x
              · have HF := As.mk (show false = Ex.okB i (.mk 4 nm l) by rw [HV.out, HM.out hq]; rfl)
                go_wp2_with (go_at_call 197; with_reducible refine (HI.out x 4 hx1 _ _ c1 _ (Rp.row_pure HR1.out (Upd.alloc1 _ _ _))).mono ?_; rintro e w1 ⟨rfl, hu⟩; rw [hq]; have HU := As.mk (show Pure wr w1 from Upd.trans (Upd.alloc1 _ _ _) hu (fun _ _ h => h)); clear hu)
                go_ret
                exact ⟨ret_bool HF.out, HP.out.trans HU.out (fun _ _ h => h)⟩
              · rw [hq] at HT
                go_wp2_with (go_at_call 197; with_reducible refine (HI.out x 4 hx1 _ _ c1 _ (Rp.row_pure HR1.out (Upd.alloc1 _ _ _))).mono ?_; rintro e w1 ⟨rfl, hu⟩; rw [hq]; have HU := As.mk (show Pure wr w1 from Upd.trans (Upd.alloc1 _ _ _) hu (fun _ _ h => h)); clear hu)
                go_roundg g1
                case measure => omega
                case rel => exact ⟨k + 1, by have := HK.out; omega, by go_num, HT, ⟨HP.out.trans HU.out (fun _ _ h => h), HX.out.pure HU.out⟩⟩
            · have hkl : k = l.length := by omega
              subst hkl
              rw [List.take_length] at HA
              rw [HA.out, Bool.true_and] at HV
              clear hp HB
              by_cases a1 : nm.size = 0
              · have f1 : nm.toList.isEmpty = true := by rw [empty_is]; simp [a1]
                by_cases a2 : 1 ≤ l.length
                · have f2 : ((l.length : Int) ≥ 1) := by omega
                  have HF : As (decide (l.length ≤ mostE 4 l.length) = Ex.okB i (.mk 4 nm l)) := ⟨by rw [HV.out, decide_eq_true a1, decide_eq_true (show leastE 4 ≤ l.length from a2)]; rfl⟩
                  go_wp2
                  go_ret
                  refine ⟨ret_bool ?_, HP.out⟩
                  rw [← HF.out, Bool.eq_iff_iff]
                  simp [mostE]
                  try omega
                · have f2 : ¬ ((l.length : Int) ≥ 1) := by omega
                  have HF : As (false = Ex.okB i (.mk 4 nm l)) := ⟨by rw [HV.out, decide_eq_true a1, decide_eq_false (show ¬ leastE 4 ≤ l.length from a2)]; rfl⟩
                  go_wp2
                  go_ret
                  exact ⟨ret_bool HF.out, HP.out⟩
              · have f1 : nm.toList.isEmpty = false := by rw [empty_is]; simp [a1]
                have HF : As (false = Ex.okB i (.mk 4 nm l)) := ⟨by rw [HV.out, decide_eq_false a1]; rfl⟩
                go_wp2
                go_ret
                exact ⟨ret_bool HF.out, HP.out⟩
        · have HV := As.mk (right_late (i := i) (k := 5) (nm := nm) (l := l) (by omega) (by omega))
          clear h1 h2
          go_enter Tryz.func197, Tryz.ntmps197
          go_wp2
          go_loopg [43] l.length (fun g i wr => ∃ k : Nat, k + g = l.length ∧ i = .int .i64 k ∧ As (Ex.oksB 5 (l.take k) = true) ∧ As (Pure w wr ∧ BoxE w.heap.size 5 nm l.length A c wr))
          case atStart => exact ⟨0, by omega, rfl, ⟨by simp [Ex.oksB]⟩, ⟨by first | exact (Upd.refl _ _).alloc _ | exact ((Upd.refl _ _).alloc _).drewN _, by first | exact BoxE.new w _ _ _ _ _ _ | exact (BoxE.new w _ _ _ _ _ _).pure ((Upd.refl _ _).drewN _)⟩⟩
          case round =>
            obtain ⟨k, hk, rfl, HA, HB⟩ := hrel
            obtain ⟨hp, hbx⟩ := HB.out
            have HP := As.mk hp
            have HX := As.mk hbx
            obtain ⟨b0, b1, b2, b3⟩ := hbx
            by_cases hlt : k < l.length
            · obtain ⟨x, hx⟩ : ∃ x, l[k]? = some x := ⟨_, List.getElem?_eq_getElem hlt⟩
              obtain ⟨b, o, A1, c1, rfl, hF, hbl, d0, d1, d2, hle1, hrow1⟩ := ex_at (Rp.row_pure HR.out hp) hx
              obtain ⟨g1, rfl⟩ : ∃ m, gk = m + 1 := ⟨gk - 1, by omega⟩
              have hx1 : x.wt ≤ N := Nat.le_trans (Ex.wt_mem (List.mem_of_getElem? hx)) hc0
              have HT := As.mk (Ex.oks_succ (i := 5) hx)
              rw [HA.out] at HT
              have HM := As.mk (fun h => Ex.oks_mem (i := 5) (List.mem_of_getElem? hx) h)
              have HR1 := As.mk hrow1
              have HK := As.mk hk
              clear hrow1 hk hx hp HB
              cases hq : Ex.okB 5 x
              · have HF := As.mk (show false = Ex.okB i (.mk 5 nm l) by rw [HV.out, HM.out hq]; rfl)
                go_wp2_with (go_at_call 197; with_reducible refine (HI.out x 5 hx1 _ _ c1 _ (Rp.row_pure HR1.out (Upd.alloc1 _ _ _))).mono ?_; rintro e w1 ⟨rfl, hu⟩; rw [hq]; have HU := As.mk (show Pure wr w1 from Upd.trans (Upd.alloc1 _ _ _) hu (fun _ _ h => h)); clear hu)
                go_ret
                exact ⟨ret_bool HF.out, HP.out.trans HU.out (fun _ _ h => h)⟩
              · rw [hq] at HT
                go_wp2_with (go_at_call 197; with_reducible refine (HI.out x 5 hx1 _ _ c1 _ (Rp.row_pure HR1.out (Upd.alloc1 _ _ _))).mono ?_; rintro e w1 ⟨rfl, hu⟩; rw [hq]; have HU := As.mk (show Pure wr w1 from Upd.trans (Upd.alloc1 _ _ _) hu (fun _ _ h => h)); clear hu)
                go_roundg g1
                case measure => omega
                case rel => exact ⟨k + 1, by have := HK.out; omega, by go_num, HT, ⟨HP.out.trans HU.out (fun _ _ h => h), HX.out.pure HU.out⟩⟩
            · have hkl : k = l.length := by omega
              subst hkl
              rw [List.take_length] at HA
              rw [HA.out, Bool.true_and] at HV
              clear hp HB
              by_cases a1 : nm.size = 0
              · have f1 : nm.toList.isEmpty = true := by rw [empty_is]; simp [a1]
                by_cases a2 : 1 ≤ l.length
                · have f2 : ((l.length : Int) ≥ 1) := by omega
                  have HF : As (decide (l.length ≤ mostE 5 l.length) = Ex.okB i (.mk 5 nm l)) := ⟨by rw [HV.out, decide_eq_true a1, decide_eq_true (show leastE 5 ≤ l.length from a2)]; rfl⟩
                  go_wp2
                  go_ret
                  refine ⟨ret_bool ?_, HP.out⟩
                  rw [← HF.out, Bool.eq_iff_iff]
                  simp [mostE]
                  try omega
                · have f2 : ¬ ((l.length : Int) ≥ 1) := by omega
                  have HF : As (false = Ex.okB i (.mk 5 nm l)) := ⟨by rw [HV.out, decide_eq_true a1, decide_eq_false (show ¬ leastE 5 ≤ l.length from a2)]; rfl⟩
                  go_wp2
                  go_ret
                  exact ⟨ret_bool HF.out, HP.out⟩
              · have f1 : nm.toList.isEmpty = false := by rw [empty_is]; simp [a1]
                have HF : As (false = Ex.okB i (.mk 5 nm l)) := ⟨by rw [HV.out, decide_eq_false a1]; rfl⟩
                go_wp2
                go_ret
                exact ⟨ret_bool HF.out, HP.out⟩
        · have HV := As.mk (right_late (i := i) (k := 6) (nm := nm) (l := l) (by omega) (by omega))
          clear h1 h2
          go_enter Tryz.func197, Tryz.ntmps197
          go_wp2
          go_loopg [43] l.length (fun g i wr => ∃ k : Nat, k + g = l.length ∧ i = .int .i64 k ∧ As (Ex.oksB 6 (l.take k) = true) ∧ As (Pure w wr ∧ BoxE w.heap.size 6 nm l.length A c wr))
          case atStart => exact ⟨0, by omega, rfl, ⟨by simp [Ex.oksB]⟩, ⟨by first | exact (Upd.refl _ _).alloc _ | exact ((Upd.refl _ _).alloc _).drewN _, by first | exact BoxE.new w _ _ _ _ _ _ | exact (BoxE.new w _ _ _ _ _ _).pure ((Upd.refl _ _).drewN _)⟩⟩
          case round =>
            obtain ⟨k, hk, rfl, HA, HB⟩ := hrel
            obtain ⟨hp, hbx⟩ := HB.out
            have HP := As.mk hp
            have HX := As.mk hbx
            obtain ⟨b0, b1, b2, b3⟩ := hbx
            by_cases hlt : k < l.length
            · obtain ⟨x, hx⟩ : ∃ x, l[k]? = some x := ⟨_, List.getElem?_eq_getElem hlt⟩
              obtain ⟨b, o, A1, c1, rfl, hF, hbl, d0, d1, d2, hle1, hrow1⟩ := ex_at (Rp.row_pure HR.out hp) hx
              obtain ⟨g1, rfl⟩ : ∃ m, gk = m + 1 := ⟨gk - 1, by omega⟩
              have hx1 : x.wt ≤ N := Nat.le_trans (Ex.wt_mem (List.mem_of_getElem? hx)) hc0
              have HT := As.mk (Ex.oks_succ (i := 6) hx)
              rw [HA.out] at HT
              have HM := As.mk (fun h => Ex.oks_mem (i := 6) (List.mem_of_getElem? hx) h)
              have HR1 := As.mk hrow1
              have HK := As.mk hk
              clear hrow1 hk hx hp HB
              cases hq : Ex.okB 6 x
              · have HF := As.mk (show false = Ex.okB i (.mk 6 nm l) by rw [HV.out, HM.out hq]; rfl)
                go_wp2_with (go_at_call 197; with_reducible refine (HI.out x 6 hx1 _ _ c1 _ (Rp.row_pure HR1.out (Upd.alloc1 _ _ _))).mono ?_; rintro e w1 ⟨rfl, hu⟩; rw [hq]; have HU := As.mk (show Pure wr w1 from Upd.trans (Upd.alloc1 _ _ _) hu (fun _ _ h => h)); clear hu)
                go_ret
                exact ⟨ret_bool HF.out, HP.out.trans HU.out (fun _ _ h => h)⟩
              · rw [hq] at HT
                go_wp2_with (go_at_call 197; with_reducible refine (HI.out x 6 hx1 _ _ c1 _ (Rp.row_pure HR1.out (Upd.alloc1 _ _ _))).mono ?_; rintro e w1 ⟨rfl, hu⟩; rw [hq]; have HU := As.mk (show Pure wr w1 from Upd.trans (Upd.alloc1 _ _ _) hu (fun _ _ h => h)); clear hu)
                go_roundg g1
                case measure => omega
                case rel => exact ⟨k + 1, by have := HK.out; omega, by go_num, HT, ⟨HP.out.trans HU.out (fun _ _ h => h), HX.out.pure HU.out⟩⟩
            · have hkl : k = l.length := by omega
              subst hkl
              rw [List.take_length] at HA
              rw [HA.out, Bool.true_and] at HV
              clear hp HB
              by_cases a1 : nm.size = 0
              · have f1 : nm.toList.isEmpty = true := by rw [empty_is]; simp [a1]
                by_cases a2 : 1 ≤ l.length
                · have f2 : ((l.length : Int) ≥ 1) := by omega
                  have HF : As (decide (l.length ≤ mostE 6 l.length) = Ex.okB i (.mk 6 nm l)) := ⟨by rw [HV.out, decide_eq_true a1, decide_eq_true (show leastE 6 ≤ l.length from a2)]; rfl⟩
                  go_wp2
                  go_ret
                  refine ⟨ret_bool ?_, HP.out⟩
                  rw [← HF.out, Bool.eq_iff_iff]
                  simp [mostE]
                  try omega
                · have f2 : ¬ ((l.length : Int) ≥ 1) := by omega
                  have HF : As (false = Ex.okB i (.mk 6 nm l)) := ⟨by rw [HV.out, decide_eq_true a1, decide_eq_false (show ¬ leastE 6 ≤ l.length from a2)]; rfl⟩
                  go_wp2
                  go_ret
                  exact ⟨ret_bool HF.out, HP.out⟩
              · have f1 : nm.toList.isEmpty = false := by rw [empty_is]; simp [a1]
                have HF : As (false = Ex.okB i (.mk 6 nm l)) := ⟨by rw [HV.out, decide_eq_false a1]; rfl⟩
                go_wp2
                go_ret
                exact ⟨ret_bool HF.out, HP.out⟩
theorem right_calls {F : Nat → Prop} {A : Option Addr} {c : Nat} {e : Ex} {w : World} (i : Int) (hr : exR.row w F A e.l) (hb : e.wt ≤ 1048576 * 4) :
    Calls Tryz.prog 197 #[e.val A c, .int .i64 i] w fun r w' => r = .returned (.bool (e.okB i)) ∧ Pure w w' :=
  right_all (1048576 * 4) e i hb (Nat.le_refl _) F A c w hr

/-- What expr.Check tells. -/
def exprCheck (e : Ex) : Int := if e.cnt > 200 ∨ e.dep > 60 then 2 else if e.okB 0 = false then 4 else 0

set_option maxRecDepth 100000 in
set_option maxHeartbeats 4000000 in
theorem exprCheck_calls {F : Nat → Prop} {A : Option Addr} {c : Nat} {e : Ex} {w : World} (hr : exR.row w F A e.l) (hb : e.wt ≤ 1048576 * 4) :
    Calls Tryz.prog 169 #[e.val A c] w fun r w' => r = .returned (.int .i64 (exprCheck e)) ∧ Pure w w' := by
  have hcb : e.cnt ≤ 1048576 * 4 := Nat.le_trans e.cnt_le_wt hb
  have hdb : e.dep ≤ e.cnt := e.dep_le_cnt
  obtain ⟨k0, nm, l⟩ := e
  have HR := As.mk hr
  have HB := As.mk hb
  have HCB := As.mk hcb
  clear hr hb
  generalize hcn : (Ex.mk k0 nm l).cnt = n at *
  generalize hdn : (Ex.mk k0 nm l).dep = d at *
  have HN := As.mk hcn
  have HD := As.mk hdn
  have HSZ := As.mk (fun (W : World) (h : exR.row W F A l) => hcn ▸ hdn ▸ size_calls (c := c) (e := .mk k0 nm l) (w := W) h (hcn ▸ hcb))
  clear hcn hdn
  by_cases h1 : n > 200
  · have HV : As ((2 : Int) = exprCheck (.mk k0 nm l)) := ⟨by unfold exprCheck; rw [HN.out, HD.out, if_pos (.inl h1)]⟩
    have e1 : ((n : Int) > 200) := by omega
    go_enter Tryz.func169, Tryz.ntmps169
    go_wp2_with (go_at_call 196; refine (HSZ.out _ (Rp.row_pure HR.out (Upd.alloc1 _ _ _))).mono ?_; rintro e w1 ⟨rfl, hu⟩; have HU := As.mk (Upd.trans (Upd.alloc1 _ _ _) hu (fun _ _ h => h)); clear hu)
    go_ret
    exact ⟨ret_int HV.out, HU.out⟩
  · have e1 : ¬ ((n : Int) > 200) := by omega
    by_cases h2 : d > 60
    · have HV : As ((2 : Int) = exprCheck (.mk k0 nm l)) := ⟨by unfold exprCheck; rw [HN.out, HD.out, if_pos (.inr h2)]⟩
      have e2 : ((d : Int) > 60) := by omega
      go_enter Tryz.func169, Tryz.ntmps169
      go_wp2_with (go_at_call 196; refine (HSZ.out _ (Rp.row_pure HR.out (Upd.alloc1 _ _ _))).mono ?_; rintro e w1 ⟨rfl, hu⟩; have HU := As.mk (Upd.trans (Upd.alloc1 _ _ _) hu (fun _ _ h => h)); clear hu)
      go_ret
      exact ⟨ret_int HV.out, HU.out⟩
    · have e2 : ¬ ((d : Int) > 60) := by omega
      have h12 : ¬ (n > 200 ∨ d > 60) := by omega
      cases hq : (Ex.mk k0 nm l).okB 0
      · have HV : As ((4 : Int) = exprCheck (.mk k0 nm l)) := ⟨by unfold exprCheck; rw [HN.out, HD.out, if_neg h12, hq, if_pos rfl]⟩
        clear h1 h2 h12
        go_enter Tryz.func169, Tryz.ntmps169
        go_wp2_with (first
          | (go_at_call 196; refine (HSZ.out _ (Rp.row_pure HR.out (Upd.alloc1 _ _ _))).mono ?_; rintro e w1 ⟨rfl, hu⟩; obtain ⟨oc, of⟩ := hu.olds; have HU := As.mk (Upd.trans (Upd.alloc1 (fun _ => False) _ _) hu (fun _ _ h => h)); clear hu)
          | (go_at_call 197; refine (right_calls (e := .mk k0 nm l) (c := c) 0 (Rp.row_pure HR.out HU.out) HB.out).mono ?_; rintro e w2 ⟨rfl, hu⟩; rw [hq]; have HU2 := As.mk (Upd.trans HU.out hu (fun _ _ h => h)); clear hu))
        go_ret
        exact ⟨ret_int HV.out, HU2.out⟩
      · have HV : As ((0 : Int) = exprCheck (.mk k0 nm l)) := ⟨by unfold exprCheck; rw [HN.out, HD.out, if_neg h12, hq, if_neg (by decide)]⟩
        clear h1 h2 h12
        go_enter Tryz.func169, Tryz.ntmps169
        go_wp2_with (first
          | (go_at_call 196; refine (HSZ.out _ (Rp.row_pure HR.out (Upd.alloc1 _ _ _))).mono ?_; rintro e w1 ⟨rfl, hu⟩; obtain ⟨oc, of⟩ := hu.olds; have HU := As.mk (Upd.trans (Upd.alloc1 (fun _ => False) _ _) hu (fun _ _ h => h)); clear hu)
          | (go_at_call 197; refine (right_calls (e := .mk k0 nm l) (c := c) 0 (Rp.row_pure HR.out HU.out) HB.out).mono ?_; rintro e w2 ⟨rfl, hu⟩; rw [hq]; have HU2 := As.mk (Upd.trans HU.out hu (fun _ _ h => h)); clear hu))
        go_ret
        exact ⟨ret_int HV.out, HU2.out⟩
end Go.Proofs.YtfapglhdakhbeaaGreatDoor
