/- strings.Builder: what its methods do to a builder that a call has made itself. -/
import Derived.Test.YtfapglhdakhbeaaGreatDoorBase
import Derived.Test.YtfapglhdakhbeaaGreatDoorProg
import Derived.Lib.UnsafeStr
import Derived.Lib.Strings
import Derived.Lib.Slices
import Derived.Laws.Externs
import Derived.Laws.IdiomCopy
namespace Go.Proofs.YtfapglhdakhbeaaGreatDoor
open Go.RowKit
set_option linter.unusedVariables false
set_option linter.unusedSimpArgs false

/-- A strings.Builder in block b that holds the bytes l; all that it leads to lies in F. -/
def Bld (w : World) (F : Nat → Prop) (b : Nat) (l : List UInt8) : Prop :=
  F b ∧ ∃ p v, (p = .pointer none ∨ p = .pointer (some ⟨b, 0, none⟩)) ∧ w.heap[b]? = some (.cells #[p, v] 165 (0, 0)) ∧ w.ownsRow 0 5 1 v l.length (Lib.byteCells l) ∧ ∀ k, v.ownBlock = some k → F k

theorem Bld.fresh (w : World) {F : Nat → Prop} (h : F w.heap.size) : Bld (w.alloc (.cells #[.pointer none, .slice none 0 0] 165)) F w.heap.size [] :=
  ⟨h, _, _, .inl rfl, heap_alloc_new w _, World.ownsRow_nil _ _ _ _, fun k hk => by simp [Value.ownBlock] at hk⟩

theorem Bld.move {w w1 : World} {F G : Nat → Prop} {b : Nat} {l : List UInt8} (hm : ∀ k, F k → k < w.heap.size → G k ∧ w1.heap[k]? = w.heap[k]?) (h : Bld w F b l) : Bld w1 G b l := by
  obtain ⟨hF, p, v, hp, hb, ho, hv⟩ := h
  have hlt : b < w.heap.size := (Array.getElem?_eq_some_iff.1 hb).1
  refine ⟨(hm b hF hlt).1, p, v, hp, by rw [(hm b hF hlt).2]; exact hb, ⟨ho.1, ?_⟩, fun k hk => (hm k (hv k hk) (ho.lt k hk).2).1⟩
  rcases ho.2 with hn | ⟨g, cap, cur, rfl, h0, hg, rest⟩
  · exact .inl hn
  · refine .inr ⟨g, cap, cur, rfl, h0, ?_, rest⟩
    rw [(hm g (hv g (by simp [Value.ownBlock])) (Array.getElem?_eq_some_iff.1 hg).1).2]
    exact hg

theorem Bld.alloc {w : World} {F : Nat → Prop} {b : Nat} {l : List UInt8} (h : Bld w F b l) (o : Obj) : Bld (w.alloc o) F b l :=
  h.move (fun k hk hl => ⟨hk, Below.heap_alloc w o k hl⟩)
theorem Bld.drew {w : World} {F : Nat → Prop} {b : Nat} {l : List UInt8} (h : Bld w F b l) : Bld w.drew F b l := h.move (fun k hk hl => ⟨hk, rfl⟩)
theorem Bld.upd {w w1 : World} {F S : Nat → Prop} {b : Nat} {l : List UInt8} (h : Bld w F b l) (hu : Upd S w w1) (hs : ∀ k, k < w.heap.size → F k → ¬ S k) : Bld w1 F b l :=
  h.move (fun k hk hl => ⟨hk, hu.block k hl (hs k hl hk)⟩)
theorem Bld.fp {w : World} {F G : Nat → Prop} {b : Nat} {l : List UInt8} (h : Bld w F b l) (hG : ∀ k, F k → G k) : Bld w G b l := h.move (fun k hk hl => ⟨hG k hk, rfl⟩)
theorem Bld.lt {w : World} {F : Nat → Prop} {b : Nat} {l : List UInt8} (h : Bld w F b l) : b < w.heap.size := by
  obtain ⟨_, p, v, _, hb, _⟩ := h
  exact (Array.getElem?_eq_some_iff.1 hb).1

theorem bld_info : (Tryz.prog.info? 165).map (·.size) = some 2 := by kernel_rfl
theorem bld_byte : (Tryz.prog.info? 5).map (fun i => (i.zero, i.size, i.bytes)) = some (some (.int .u8 0), 1, 1) := by kernel_rfl

set_option maxRecDepth 100000 in
set_option maxHeartbeats 1000000 in
theorem copyCheck_used (b : Nat) (w : World) (h0 : w.cell? ⟨b, 0, none⟩ = some (.pointer (some ⟨b, 0, none⟩))) :
    Calls Tryz.prog 162 #[.pointer (some ⟨b, 0, none⟩)] w fun e w' => e = .returned (.tuple #[]) ∧ w' = w := by
  obtain ⟨j, hj, _⟩ := Option.map_eq_some_iff.1 bld_info
  go_enter Tryz.func162, Tryz.ntmps162
  go_wp2
  rw [Lib.run_neq_ptr_same w _ Tryz.underlying163 hj]
  go_wp2
  go_end0
  exact ⟨rfl, rfl⟩

set_option maxRecDepth 100000 in
set_option maxHeartbeats 1000000 in
theorem copyCheck_fresh (b : Nat) (w : World) (h0 : w.cell? ⟨b, 0, none⟩ = some (.pointer none)) (hsh : w.shape? b = some (165, 2)) (hfz : w.frozen? ⟨b, 0, none⟩ = false) :
    Calls Tryz.prog 162 #[.pointer (some ⟨b, 0, none⟩)] w fun e w' => e = .returned (.tuple #[]) ∧ w' = w.setCell ⟨b, 0, none⟩ (.pointer (some ⟨b, 0, none⟩)) := by
  obtain ⟨j, hj, hjs⟩ := Option.map_eq_some_iff.1 bld_info
  go_enter Tryz.func162, Tryz.ntmps162
  go_wp2
  rw [Lib.run_to_unsafe w ⟨b, 0, none⟩ Tryz.underlying163 Tryz.underlying250 hj (by rw [hjs]; decide) hsh (Nat.zero_lt_succ 1)]
  simp only [Result.andThen]
  rw [Oper.upon_value]
  go_wp2
  rw [run_callFunc_extern Tryz.func187 (by kernel_rfl) (by kernel_rfl) (by kernel_rfl) (e := Extern.AbiNoEscape.same) (by kernel_rfl)]
  rw [Lib.run_noEscape]
  simp only [Result.andThen]
  rw [Oper.upon_value]
  go_wp2
  rw [Lib.run_from_unsafe w ⟨b, 0, none⟩ Tryz.underlying250 Tryz.underlying163 hj hsh (by kernel_rfl)]
  simp only [Result.andThen]
  rw [Oper.upon_value]
  go_wp2
  go_end0
  exact ⟨rfl, rfl⟩

/-- Behind it the builder is marked as its own. -/
theorem copyCheck_calls {w : World} {F : Nat → Prop} {b : Nat} {l : List UInt8} (h : Bld w F b l) :
    Calls Tryz.prog 162 #[.pointer (some ⟨b, 0, none⟩)] w fun e w' => e = .returned (.tuple #[]) ∧ Upd (fun k => k = b) w w' ∧ w'.heap.size = w.heap.size ∧
      ∃ v, w'.heap[b]? = some (.cells #[.pointer (some ⟨b, 0, none⟩), v] 165 (0, 0)) ∧ w'.ownsRow 0 5 1 v l.length (Lib.byteCells l) ∧ ∀ k, v.ownBlock = some k → F k ∧ k ≠ b := by
  obtain ⟨hF, p, v, hp, hb, ho, hv⟩ := h
  have hlt : b < w.heap.size := (Array.getElem?_eq_some_iff.1 hb).1
  have hne : ∀ k, v.ownBlock = some k → F k ∧ k ≠ b := fun k hk => ⟨hv k hk, fun e => Lib.ownBlock_ne ho hb (by decide) (e ▸ hk)⟩
  rcases hp with rfl | rfl
  · refine (copyCheck_fresh b w (by simp [World.cell?, hb]) (by simp [World.shape?, hb]) (by simp [World.frozen?, hb])).mono ?_
    rintro e w' ⟨rfl, rfl⟩
    refine ⟨rfl, Upd.setCell1 (S := fun k => k = b) w (p := ⟨b, 0, none⟩) rfl _, by simp [World.setCell], v, by simp [World.setCell, Array.getElem?_modify, hb], ?_, hne⟩
    exact ho.kept (row := some b) ⟨rfl, rfl, rfl, by simp [World.setCell], fun k _ hk => Below.heap_setCell _ _ _ _ (fun e => hk (by simp [e]))⟩ (Or.inr (fun e => (hne b e).2 rfl))
  · refine (copyCheck_used b w (by simp [World.cell?, hb])).mono ?_
    rintro e w' ⟨rfl, rfl⟩
    exact ⟨rfl, Upd.refl _ _, rfl, v, hb, ho, hne⟩

/-- What a writer leaves: a new buffer laid into the builder. -/
theorem Bld.put {w w1 w2 : World} {F : Nat → Prop} {b : Nat} {l l' : List UInt8} {v v' : Value} (hF : F b) (hb : w1.heap[b]? = some (.cells #[.pointer (some ⟨b, 0, none⟩), v] 165 (0, 0)))
    (hne : ∀ k, v.ownBlock = some k → F k ∧ k ≠ b) (hg : w1.grownBy w2 v.ownBlock) (hlt : b < w1.heap.size)
    (hown : w2.ownsRow 0 5 1 v' l'.length (Lib.byteCells l')) (hat : v'.ownBlock = v.ownBlock ∨ ∃ k, v'.ownBlock = some k ∧ w1.heap.size ≤ k) :
    Bld (w2.setCell ⟨b, 1, none⟩ v') (fun k => F k ∨ w1.heap.size ≤ k) b l' := by
  have hb2 : w2.heap[b]? = some (.cells #[.pointer (some ⟨b, 0, none⟩), v] 165 (0, 0)) := by
    rw [hg.block b hlt (fun e => (hne b e.symm).2 rfl)]
    exact hb
  have hne2 : v'.ownBlock ≠ some b := by
    rcases hat with hat | ⟨k, hk, hle⟩
    · rw [hat]
      exact fun e => (hne b e).2 rfl
    · rw [hk]
      intro e
      injection e with e
      omega
  refine ⟨.inl hF, _, v', .inr rfl, by simp [World.setCell, Array.getElem?_modify, hb2], ?_, fun k hk => ?_⟩
  · exact hown.kept (row := some b) ⟨rfl, rfl, rfl, by simp [World.setCell], fun k _ hk => Below.heap_setCell _ _ _ _ (fun e => hk (by simp [e]))⟩ (Or.inr hne2)
  · rcases hat with hat | ⟨q, hq, hle⟩
    · exact .inl (hne k (hat ▸ hk)).1
    · rw [hq] at hk
      injection hk with hk
      exact .inr (by omega)

/-- The same behind a callee that may have turned the buffer's row. -/
theorem Bld.put2 {w w1 w2 : World} {F : Nat → Prop} {b : Nat} {l l' : List UInt8} {v v' : Value} (hF : F b) (hb : w1.heap[b]? = some (.cells #[.pointer (some ⟨b, 0, none⟩), v] 165 (0, 0)))
    (hne : ∀ k, v.ownBlock = some k → F k ∧ k ≠ b) (hg : Upd (fun k => v.ownBlock = some k) w1 w2) (hlt : b < w1.heap.size)
    (hown : w2.ownsRow 0 5 1 v' l'.length (Lib.byteCells l')) (hat : v'.ownBlock = v.ownBlock ∨ ∃ k, v'.ownBlock = some k ∧ w1.heap.size ≤ k) :
    Bld (w2.setCell ⟨b, 1, none⟩ v') (fun k => F k ∨ w1.heap.size ≤ k) b l' :=
  Bld.put (w := w) (l := l) hF hb hne ⟨hg.os, hg.tape, hg.output, hg.size, fun k hk hn => hg.block k hk (fun e => hn e.symm)⟩ hlt hown hat

/-- String: the builder is not used afterwards. -/
theorem Bld.lib {w : World} {F : Nat → Prop} {b : Nat} {l : List UInt8} (h : Bld w F b l) : ∃ p v, w.heap[b]? = some (.cells #[p, v] 165 (0, 0)) ∧ (∀ k, v.ownBlock = some k → F k) ∧ ((v = .slice none 0 0 ∧ l = []) ∨
    ∃ g cap cur, v = .slice (some ⟨g, 0, none⟩) l.length cap ∧ F g ∧ w.heap[g]? = some (.cells cur 5 (0, 0)) ∧ l.length ≤ cap ∧ cap ≤ maxLen ∧ cur.size = cap ∧ cur.toList.take l.length = Lib.byteCells l) := by
  obtain ⟨_, p, v, _, hb, ho, hv⟩ := h
  refine ⟨p, v, hb, hv, ?_⟩
  rcases ho.2 with ⟨h1, h2⟩ | ⟨g, cap, cur, rfl, _, hg, h1, h2, h3, h4⟩
  · exact .inl ⟨h1, List.eq_nil_of_length_eq_zero h2⟩
  · exact .inr ⟨g, cap, cur, rfl, hv g (by simp [Value.ownBlock]), hg, h1, h2, by simpa using h3, by simpa using h4⟩

theorem Upd.freeze {S : Nat → Prop} {a w : World} (h : Upd S a w) {p : Addr} (hp : p.block < a.heap.size → S p.block) (n : Nat) : Upd S a (w.freeze p n) := by
  refine h.trans (S' := fun k => k = p.block) ?_ (fun k hk e => by subst e; exact hp hk)
  unfold World.freeze
  split
  · exact Upd.refl _ _
  · exact ⟨rfl, rfl, rfl, by simp, fun k hk hn => by
      rw [Array.getElem?_modify, if_neg (fun e => hn e.symm)]⟩

set_option maxRecDepth 100000 in
set_option maxHeartbeats 2000000 in
theorem String_calls {w : World} {F : Nat → Prop} {b : Nat} {l : List UInt8} (h : Bld w F b l) :
    Calls Tryz.prog 124 #[.pointer (some ⟨b, 0, none⟩)] w fun e w' => e = .returned (.string ⟨l.toArray⟩) ∧ Upd F w w' := by
  obtain ⟨p, v, hbk, hv, ⟨rfl, rfl⟩ | ⟨g, cap, cur, rfl, hF, hg, hle, hcm, hcs, htake⟩⟩ := h.lib
  · clear h
    have hUS : (Builtin.unsafeString_ #[210, 3] 9 #[.pointer none, .int .i64 0]).run Tryz.prog w.drew = .ok (.string .empty) w.drew := Lib.run_unsafeString_none _ _ _ _ _
    have hSD : (Builtin.unsafeSliceData_ #[72] 210 #[.slice none 0 0]).run Tryz.prog w.drew = .ok (.pointer none) w.drew := Lib.run_unsafeSliceData_nil _ _ _ _ _
    have c1 : w.drew.cell? ⟨b, 1, none⟩ = some (.slice none 0 0) := by
      have : w.drew.heap[b]? = some (.cells #[p, .slice none 0 0] 165 (0, 0)) := hbk
      simp [World.cell?, this]
    go_enter Tryz.func124, Tryz.ntmps124
    go_wp2
    go_region
    all_goals (go_wp2; go_ret; exact ⟨rfl, (Upd.refl _ _).drew⟩)
  · clear h
    have c1 : w.drew.cell? ⟨b, 1, none⟩ = some (.slice (some ⟨g, 0, none⟩) l.length cap) := by
      have : w.drew.heap[b]? = some (.cells #[p, .slice (some ⟨g, 0, none⟩) l.length cap] 165 (0, 0)) := hbk
      simp [World.cell?, this]
    by_cases hc0 : cap = 0
    · subst hc0
      have hl0 : l = [] := List.eq_nil_of_length_eq_zero (by omega)
      subst hl0
      have hlt : b < w.heap.size := (Array.getElem?_eq_some_iff.1 hbk).1
      have hUS : ∀ (W : World) (q : Option Addr), (Builtin.unsafeString_ #[210, 3] 9 #[.pointer q, .int .i64 0]).run Tryz.prog W = .ok (.string .empty) W := fun W q => Lib.run_unsafeString_none W _ _ _ q
      have hSD : (Builtin.unsafeSliceData_ #[72] 210 #[.slice (some ⟨g, 0, none⟩) 0 0]).run Tryz.prog w.drew = .ok (.pointer (some ⟨w.drew.heap.size, 0, none⟩)) (w.drew.alloc (.view ⟨g, 0, none⟩ 5)) :=
        Lib.run_unsafeSliceData_zero w.drew _ _ 5 Tryz.underlying210 ⟨g, 0, none⟩ 0 (5, cur.size) (by have hg' : w.drew.heap[g]? = some (.cells cur 5 (0, 0)) := hg; simp [World.shape?, hg'])
      have c2 : (w.drew.alloc (.view ⟨g, 0, none⟩ 5)).cell? ⟨b, 1, none⟩ = some (.slice (some ⟨g, 0, none⟩) 0 0) := by
        have : (w.drew.alloc (.view ⟨g, 0, none⟩ 5)).heap[b]? = _ := (Below.heap_alloc w.drew _ b hlt).trans hbk
        simp [World.cell?, this]
      have c3 : (w.alloc (.view ⟨g, 0, none⟩ 5)).drew.cell? ⟨b, 1, none⟩ = some (.slice (some ⟨g, 0, none⟩) 0 0) := c2
      have c0 : w.cell? ⟨b, 1, none⟩ = some (.slice (some ⟨g, 0, none⟩) 0 0) := c1
      go_enter Tryz.func124, Tryz.ntmps124
      go_wp2
      go_region
      all_goals (go_wp2; go_ret; exact ⟨rfl, ((Upd.refl _ _).drew).alloc _⟩)
    · by_cases hl0 : l = []
      · subst hl0
        have hSD : (Builtin.unsafeSliceData_ #[72] 210 #[.slice (some ⟨g, 0, none⟩) 0 cap]).run Tryz.prog w.drew = .ok (.pointer (some ⟨g, 0, none⟩)) w.drew := Lib.run_unsafeSliceData_row _ _ _ _ _ _ hc0
        have hUS : (Builtin.unsafeString_ #[210, 3] 9 #[.pointer (some ⟨g, 0, none⟩), .int .i64 0]).run Tryz.prog w.drew = .ok (.string .empty) w.drew := Lib.run_unsafeString_none _ _ _ _ _
        go_enter Tryz.func124, Tryz.ntmps124
        go_wp2
        go_region
        all_goals (go_wp2; go_ret; exact ⟨rfl, (Upd.refl _ _).drew⟩)
      · have hSD : (Builtin.unsafeSliceData_ #[72] 210 #[.slice (some ⟨g, 0, none⟩) l.length cap]).run Tryz.prog w.drew = .ok (.pointer (some ⟨g, 0, none⟩)) w.drew := Lib.run_unsafeSliceData_row _ _ _ _ _ _ hc0
        have hUS : (Builtin.unsafeString_ #[210, 3] 9 #[.pointer (some ⟨g, 0, none⟩), .int .i64 l.length]).run Tryz.prog w.drew = .ok (.string ⟨l.toArray⟩) (w.drew.freeze ⟨g, 0, none⟩ l.length) := by
          refine Lib.run_unsafeString_row w.drew 210 3 9 5 Tryz.underlying210 (by kernel_rfl) g cur.size (by have hg' : w.drew.heap[g]? = some (.cells cur 5 (0, 0)) := hg; simp [World.shape?, hg']) l hl0 (by omega) (by unfold maxLen at hcm; omega) ?_
          intro j y hy
          have hg' : w.drew.heap[g]? = some (.cells cur 5 (0, 0)) := hg
          have h1 : (Lib.byteCells l)[j]? = some (.int .u8 y.toNat) := by rw [Lib.byteCells, List.getElem?_map, hy]; rfl
          rw [← htake, List.getElem?_take] at h1
          split at h1
          · have e : (⟨g, 0, none⟩ : Addr).add j = ⟨g, j, none⟩ := by unfold Addr.add; split <;> simp_all
            rw [e]
            simp [World.cell?, hg']
            simpa using h1
          · cases h1
        clear htake hcm hc0 hl0
        go_enter Tryz.func124, Tryz.ntmps124
        go_wp2
        go_region
        all_goals (go_wp2; go_ret; exact ⟨rfl, ((Upd.refl _ _).drew).freeze (p := ⟨g, 0, none⟩) (fun _ => hF) _⟩)
end Go.Proofs.YtfapglhdakhbeaaGreatDoor
